import Derived.Test.YtkngeapegpehpaaFby
namespace Go.Proofs.Ytkngeapegpehpaa.W
open Go Go.Eng Go.Byt
set_option linter.unusedVariables false
set_option linter.unusedSimpArgs false
open Go.Fld Go.Ed
set_option maxRecDepth 100000 in
set_option maxHeartbeats 4000000 in
theorem put_any (f : Nat → Int) (a : Fp) (hf : El f a) (w : World) : Rets Try.prog 68 [.agg (iv .u64 5 f).toArray] w (fun v w' => OwnB w' w.heap.size v (fpB a) ∧ Keep [] w w') := by
  have hB : Keep [] w w := Keep.refl _ _
  obtain ⟨f0, f1, f2, f3, f4, hfv⟩ := hf
  refine rets_of_tw Try.func68 rfl (by decide) Try.ntmps68 rfl (fun fin _ hfin => ?_)
  refine tw_seq ?_
  refine tw_region ?_
  refine ow_d (d_box (cs := [.int .u64 (f 0), .int .u64 (f 1), .int .u64 (f 2), .int .u64 (f 3), .int .u64 (f 4)]) rfl rfl) rfl ?_
  rintro _ w1 ⟨b1, rfl, eb1, hb1, k1, z1⟩
  have ge_b1 : w.heap.size ≤ b1 := by have := hB.size; omega
  replace hB := hB.trans k1
  clear eb1 z1
  refine ow_g (g_as rfl) rfl ?_
  refine ow_nil ?_
  refine tw_keep [(1, _)] ⟨rfl, trivial⟩ ?_
  refine tw_seq ?_
  refine tw_region ?_
  refine ow_g (g_ldab (cs' := [_, _, _, _, _]) ag26 ty26 rfl hb1 rfl rfl) rfl ?_
  refine ow_d (d_call (vs := [_]) rfl (carry_any f (In.wk f0 rfl) (In.wk f1 rfl) (In.wk f2 rfl) (In.wk f3 rfl) (In.wk f4 rfl) _)) rfl ?_
  rintro _ w2 ⟨hh1, c01, c11, c21, c31, c41, rfl, e01, e11, e21, e31, e41, g01, g11, g21, g31, g41, gv1, k2⟩
  replace hb1 := hb1.keep0 k2
  replace hB := hB.trans k2
  obtain ⟨r1, r2, r3, r4, r5⟩ := carry_bounds (t := 2251799813685285) e01 e11 e21 e31 e41 g01 g11 g21 g31 g41 (In.wk f0 rfl : In _ 0 4503599627370495) (In.wk f1 rfl : In _ 0 4503599627370495) (In.wk f2 rfl : In _ 0 4503599627370495) (In.wk f3 rfl : In _ 0 4503599627370495) (In.wk f4 rfl : In _ 0 4503599627370495) rfl
  refine ow_d (d_call (vs := [_]) rfl (carry_any hh1 (In.wk r1 rfl) (In.wk r2 rfl) (In.wk r3 rfl) (In.wk r4 rfl) (In.wk r5 rfl) _)) rfl ?_
  rintro _ w3 ⟨hh2, c02, c12, c22, c32, c42, rfl, e02, e12, e22, e32, e42, g02, g12, g22, g32, g42, gv2, k3⟩
  replace hb1 := hb1.keep0 k3
  replace hB := hB.trans k3
  obtain ⟨r6, r7, r8, r9, r10⟩ := carry_bounds (t := 2251799813685266) e02 e12 e22 e32 e42 g02 g12 g22 g32 g42 (In.wk r1 rfl : In _ 0 2251799813685285) (In.wk r2 rfl : In _ 0 2251799813685247) (In.wk r3 rfl : In _ 0 2251799813685247) (In.wk r4 rfl : In _ 0 2251799813685247) (In.wk r5 rfl : In _ 0 2251799813685247) rfl
  have r11 := carry_twice e01 e11 e21 e31 e41 g01 g11 g21 g31 g41 f0 f1 f2 f3 f4 e02 e12 e22 e32 e42 g02
  refine ow_d0 (d_sta ty26 rfl rfl rfl ivF_one hb1 rfl) ?_
  rintro _ w4 ⟨hb2, k4, z2⟩
  replace hB := hB.new k4 (fun x hx => .inl ((List.mem_singleton.1 hx) ▸ ge_b1))
  clear z2
  replace hb2 : Bk w4 b1 _ [.int .u64 (hh2 0), .int .u64 (hh2 1), .int .u64 (hh2 2), .int .u64 (hh2 3), .int .u64 (hh2 4)] := hb2
  refine ow_nil ?_
  refine tw_keep [(1, _)] ⟨rfl, trivial⟩ ?_
  refine tw_seq ?_
  refine tw_region ?_
  refine ow_g (g_ldab (cs' := [_, _, _, _, _]) ag26 ty26 rfl hb2 rfl rfl) rfl ?_
  refine ow_d (d_alloc ty26) rfl ?_
  rintro _ w5 ⟨b2, rfl, eb2, hb3, k5, z3⟩
  have ge_b2 : w.heap.size ≤ b2 := by have := hB.size; omega
  have ne_b1_b2 : b1 ≠ b2 := by have := hb2.lt; omega
  replace hb2 := hb2.keep0 k5
  replace hB := hB.trans k5
  clear eb2 z3
  refine ow_d0 (d_sta ty26 rfl rfl rfl (by simp only [List.forall_mem_cons]; refine ⟨rfl, rfl, rfl, rfl, rfl, fun v hv => by cases hv⟩) hb3 rfl) ?_
  rintro _ w6 ⟨hb4, k6, z4⟩
  replace hb2 := hb2.keep k6 (fun hm => absurd (List.mem_singleton.1 hm) ne_b1_b2)
  replace hB := hB.new k6 (fun x hx => .inl ((List.mem_singleton.1 hx) ▸ ge_b2))
  clear z4
  replace hb4 : Bk w6 b2 _ [.int .u64 (hh2 0), .int .u64 (hh2 1), .int .u64 (hh2 2), .int .u64 (hh2 3), .int .u64 (hh2 4)] := hb4
  refine ow_nil ?_
  refine tw_keep [(1, _), (3, _)] ⟨rfl, rfl, trivial⟩ ?_
  refine tw_seq ?_
  refine tw_region ?_
  refine ow_g (g_ixa Try.underlying26 ty24 rfl rfl (by decide)) rfl ?_
  refine ow_g (g_ldb sc24 rfl hb4 rfl) rfl ?_
  refine ow_gx (e' := (hh2 0) + 19) (lo := 19) (hi := 2251799813685266) (g_addw rfl rfl) (wrap_fit (in_add r11 (in_c 19)) rfl) (In.wk (in_add r11 (in_c 19)) rfl) rfl (fun z5 h1 r12 => ?_)
  refine ow_g (g_ixa Try.underlying26 ty24 rfl rfl (by decide)) rfl ?_
  refine ow_d0 (d_st ty24 rfl rfl rfl hb4 rfl) ?_
  rintro _ w7 ⟨hb5, k7, z6⟩
  replace hb2 := hb2.keep k7 (fun hm => absurd (List.mem_singleton.1 hm) ne_b1_b2)
  replace hB := hB.new k7 (fun x hx => .inl ((List.mem_singleton.1 hx) ▸ ge_b2))
  clear z6
  replace hb5 : Bk w7 b2 _ [.int .u64 z5, .int .u64 (hh2 1), .int .u64 (hh2 2), .int .u64 (hh2 3), .int .u64 (hh2 4)] := hb5
  refine ow_nil ?_
  refine tw_keep [(1, _), (3, _)] ⟨rfl, rfl, trivial⟩ ?_
  refine tw_seq ?_
  refine tw_seq ?_
  refine tw_region ?_
  refine ow_g (g_mv rfl) rfl ?_
  refine ow_nil ?_
  refine tw_keep [(1, _), (3, _), (16, _)] ⟨rfl, rfl, rfl, trivial⟩ ?_
  refine tw_block ?_
  refine tw_unroll 4 ?_
  refine tw_seq ?_
  refine tw_region ?_
  refine ow_g (g_lt rfl rfl) rfl ?_
  refine ow_nil ?_
  refine tw_keep [(1, _), (3, _), (16, _), (17, _)] ⟨rfl, rfl, rfl, rfl, trivial⟩ ?_
  refine tw_seq ?_
  refine tw_ifT rfl (by decide) ?_
  refine tw_skip ?_
  refine tw_seq ?_
  refine tw_block ?_
  refine tw_seq ?_
  refine tw_region ?_
  refine ow_g (g_mv rfl) rfl ?_
  refine ow_g (g_as rfl) rfl ?_
  refine ow_nil ?_
  refine tw_keep [(1, _), (3, _), (16, _), (4, _)] ⟨rfl, rfl, rfl, rfl, trivial⟩ ?_
  refine tw_seq ?_
  refine tw_still 9 mixed (by decide +kernel) (fun w8 k8 => ?_)
  replace hb2 := hb2.keep0 k8
  replace hb5 := hb5.keep0 k8
  replace hB := hB.trans k8
  refine sw_g (g_mv rfl) rfl ?_
  refine sw_g (g_fold (j := 1) (g_addw rfl rfl) (by decide)) rfl ?_
  refine sw_g (g_ixa Try.underlying26 ty24 rfl rfl (by decide)) rfl ?_
  refine sw_g (g_ldb sc24 rfl hb5 rfl) rfl ?_
  refine sw_g (g_mv rfl) rfl ?_
  refine sw_g (g_ixa Try.underlying26 ty24 rfl rfl (by decide)) rfl ?_
  refine sw_g (g_ldb sc24 rfl hb5 rfl) rfl ?_
  refine sw_gx (e' := z5 / 2251799813685248) (lo := 0) (hi := 1) (g_shrp (m := 2251799813685248) rfl rfl (by decide) rfl) (rfl) (In.wk (in_div r12 (by decide)) rfl) rfl (fun z7 h2 r13 => ?_)
  refine sw_gx (e' := (hh2 1) + z7) (lo := 0) (hi := 2251799813685248) (g_addw rfl rfl) (wrap_fit (in_add r7 r13) rfl) (In.wk (in_add r7 r13) rfl) rfl (fun z8 h3 r14 => ?_)
  refine sw_nil ?_
  refine ow_g (g_ixa Try.underlying26 ty24 rfl rfl (by decide)) rfl ?_
  refine ow_d0 (d_st ty24 rfl rfl rfl hb5 rfl) ?_
  rintro _ w9 ⟨hb6, k9, z9⟩
  replace hb2 := hb2.keep k9 (fun hm => absurd (List.mem_singleton.1 hm) ne_b1_b2)
  replace hB := hB.new k9 (fun x hx => .inl ((List.mem_singleton.1 hx) ▸ ge_b2))
  clear z9
  replace hb6 : Bk w9 b2 _ [.int .u64 z5, .int .u64 z8, .int .u64 (hh2 2), .int .u64 (hh2 3), .int .u64 (hh2 4)] := hb6
  refine ow_nil ?_
  refine tw_keep [(1, _), (3, _), (16, _), (4, _)] ⟨rfl, rfl, rfl, rfl, trivial⟩ ?_
  refine tw_region ?_
  refine ow_g (g_mv rfl) rfl ?_
  refine ow_g (g_ixa Try.underlying26 ty24 rfl rfl (by decide)) rfl ?_
  refine ow_g (g_ldb sc24 rfl hb6 rfl) rfl ?_
  refine ow_gx (e' := z5 % 2251799813685248) (lo := 0) (hi := 2251799813685247) (g_and rfl rfl) (and_mod 51 r12 rfl rfl rfl rfl rfl rfl) (In.wk (in_mod _ (by decide)) rfl) rfl (fun z10 h4 r15 => ?_)
  refine ow_g (g_ixa Try.underlying26 ty24 rfl rfl (by decide)) rfl ?_
  refine ow_d0 (d_st ty24 rfl rfl rfl hb6 rfl) ?_
  rintro _ w10 ⟨hb7, k10, z11⟩
  replace hb2 := hb2.keep k10 (fun hm => absurd (List.mem_singleton.1 hm) ne_b1_b2)
  replace hB := hB.new k10 (fun x hx => .inl ((List.mem_singleton.1 hx) ▸ ge_b2))
  clear z11
  replace hb7 : Bk w10 b2 _ [.int .u64 z10, .int .u64 z8, .int .u64 (hh2 2), .int .u64 (hh2 3), .int .u64 (hh2 4)] := hb7
  refine ow_nil ?_
  refine tw_keep [(1, _), (3, _), (16, _)] ⟨rfl, rfl, rfl, trivial⟩ ?_
  refine tw_b ?_
  refine tw_region ?_
  refine ow_g (g_fold (j := 1) (g_addw rfl rfl) (by decide)) rfl ?_
  refine ow_g (g_mv rfl) rfl ?_
  refine ow_nil ?_
  refine tw_keep [(1, _), (3, _), (16, _)] ⟨rfl, rfl, rfl, trivial⟩ ?_
  refine tw_lp ?_
  refine tw_seq ?_
  refine tw_region ?_
  refine ow_g (g_lt rfl rfl) rfl ?_
  refine ow_nil ?_
  refine tw_keep [(1, _), (3, _), (16, _), (17, _)] ⟨rfl, rfl, rfl, rfl, trivial⟩ ?_
  refine tw_seq ?_
  refine tw_ifT rfl (by decide) ?_
  refine tw_skip ?_
  refine tw_seq ?_
  refine tw_block ?_
  refine tw_seq ?_
  refine tw_region ?_
  refine ow_g (g_mv rfl) rfl ?_
  refine ow_g (g_as rfl) rfl ?_
  refine ow_nil ?_
  refine tw_keep [(1, _), (3, _), (16, _), (4, _)] ⟨rfl, rfl, rfl, rfl, trivial⟩ ?_
  refine tw_seq ?_
  refine tw_still 9 mixed (by decide +kernel) (fun w11 k11 => ?_)
  replace hb2 := hb2.keep0 k11
  replace hb7 := hb7.keep0 k11
  replace hB := hB.trans k11
  refine sw_g (g_mv rfl) rfl ?_
  refine sw_g (g_fold (j := 2) (g_addw rfl rfl) (by decide)) rfl ?_
  refine sw_g (g_ixa Try.underlying26 ty24 rfl rfl (by decide)) rfl ?_
  refine sw_g (g_ldb sc24 rfl hb7 rfl) rfl ?_
  refine sw_g (g_mv rfl) rfl ?_
  refine sw_g (g_ixa Try.underlying26 ty24 rfl rfl (by decide)) rfl ?_
  refine sw_g (g_ldb sc24 rfl hb7 rfl) rfl ?_
  refine sw_gx (e' := z8 / 2251799813685248) (lo := 0) (hi := 1) (g_shrp (m := 2251799813685248) rfl rfl (by decide) rfl) (rfl) (In.wk (in_div r14 (by decide)) rfl) rfl (fun z12 h5 r16 => ?_)
  refine sw_gx (e' := (hh2 2) + z12) (lo := 0) (hi := 2251799813685248) (g_addw rfl rfl) (wrap_fit (in_add r8 r16) rfl) (In.wk (in_add r8 r16) rfl) rfl (fun z13 h6 r17 => ?_)
  refine sw_nil ?_
  refine ow_g (g_ixa Try.underlying26 ty24 rfl rfl (by decide)) rfl ?_
  refine ow_d0 (d_st ty24 rfl rfl rfl hb7 rfl) ?_
  rintro _ w12 ⟨hb8, k12, z14⟩
  replace hb2 := hb2.keep k12 (fun hm => absurd (List.mem_singleton.1 hm) ne_b1_b2)
  replace hB := hB.new k12 (fun x hx => .inl ((List.mem_singleton.1 hx) ▸ ge_b2))
  clear z14
  replace hb8 : Bk w12 b2 _ [.int .u64 z10, .int .u64 z8, .int .u64 z13, .int .u64 (hh2 3), .int .u64 (hh2 4)] := hb8
  refine ow_nil ?_
  refine tw_keep [(1, _), (3, _), (16, _), (4, _)] ⟨rfl, rfl, rfl, rfl, trivial⟩ ?_
  refine tw_region ?_
  refine ow_g (g_mv rfl) rfl ?_
  refine ow_g (g_ixa Try.underlying26 ty24 rfl rfl (by decide)) rfl ?_
  refine ow_g (g_ldb sc24 rfl hb8 rfl) rfl ?_
  refine ow_gx (e' := z8 % 2251799813685248) (lo := 0) (hi := 2251799813685247) (g_and rfl rfl) (and_mod 51 r14 rfl rfl rfl rfl rfl rfl) (In.wk (in_mod _ (by decide)) rfl) rfl (fun z15 h7 r18 => ?_)
  refine ow_g (g_ixa Try.underlying26 ty24 rfl rfl (by decide)) rfl ?_
  refine ow_d0 (d_st ty24 rfl rfl rfl hb8 rfl) ?_
  rintro _ w13 ⟨hb9, k13, z16⟩
  replace hb2 := hb2.keep k13 (fun hm => absurd (List.mem_singleton.1 hm) ne_b1_b2)
  replace hB := hB.new k13 (fun x hx => .inl ((List.mem_singleton.1 hx) ▸ ge_b2))
  clear z16
  replace hb9 : Bk w13 b2 _ [.int .u64 z10, .int .u64 z15, .int .u64 z13, .int .u64 (hh2 3), .int .u64 (hh2 4)] := hb9
  refine ow_nil ?_
  refine tw_keep [(1, _), (3, _), (16, _)] ⟨rfl, rfl, rfl, trivial⟩ ?_
  refine tw_b ?_
  refine tw_region ?_
  refine ow_g (g_fold (j := 2) (g_addw rfl rfl) (by decide)) rfl ?_
  refine ow_g (g_mv rfl) rfl ?_
  refine ow_nil ?_
  refine tw_keep [(1, _), (3, _), (16, _)] ⟨rfl, rfl, rfl, trivial⟩ ?_
  refine tw_lp ?_
  refine tw_seq ?_
  refine tw_region ?_
  refine ow_g (g_lt rfl rfl) rfl ?_
  refine ow_nil ?_
  refine tw_keep [(1, _), (3, _), (16, _), (17, _)] ⟨rfl, rfl, rfl, rfl, trivial⟩ ?_
  refine tw_seq ?_
  refine tw_ifT rfl (by decide) ?_
  refine tw_skip ?_
  refine tw_seq ?_
  refine tw_block ?_
  refine tw_seq ?_
  refine tw_region ?_
  refine ow_g (g_mv rfl) rfl ?_
  refine ow_g (g_as rfl) rfl ?_
  refine ow_nil ?_
  refine tw_keep [(1, _), (3, _), (16, _), (4, _)] ⟨rfl, rfl, rfl, rfl, trivial⟩ ?_
  refine tw_seq ?_
  refine tw_still 9 mixed (by decide +kernel) (fun w14 k14 => ?_)
  replace hb2 := hb2.keep0 k14
  replace hb9 := hb9.keep0 k14
  replace hB := hB.trans k14
  refine sw_g (g_mv rfl) rfl ?_
  refine sw_g (g_fold (j := 3) (g_addw rfl rfl) (by decide)) rfl ?_
  refine sw_g (g_ixa Try.underlying26 ty24 rfl rfl (by decide)) rfl ?_
  refine sw_g (g_ldb sc24 rfl hb9 rfl) rfl ?_
  refine sw_g (g_mv rfl) rfl ?_
  refine sw_g (g_ixa Try.underlying26 ty24 rfl rfl (by decide)) rfl ?_
  refine sw_g (g_ldb sc24 rfl hb9 rfl) rfl ?_
  refine sw_gx (e' := z13 / 2251799813685248) (lo := 0) (hi := 1) (g_shrp (m := 2251799813685248) rfl rfl (by decide) rfl) (rfl) (In.wk (in_div r17 (by decide)) rfl) rfl (fun z17 h8 r19 => ?_)
  refine sw_gx (e' := (hh2 3) + z17) (lo := 0) (hi := 2251799813685248) (g_addw rfl rfl) (wrap_fit (in_add r9 r19) rfl) (In.wk (in_add r9 r19) rfl) rfl (fun z18 h9 r20 => ?_)
  refine sw_nil ?_
  refine ow_g (g_ixa Try.underlying26 ty24 rfl rfl (by decide)) rfl ?_
  refine ow_d0 (d_st ty24 rfl rfl rfl hb9 rfl) ?_
  rintro _ w15 ⟨hb10, k15, z19⟩
  replace hb2 := hb2.keep k15 (fun hm => absurd (List.mem_singleton.1 hm) ne_b1_b2)
  replace hB := hB.new k15 (fun x hx => .inl ((List.mem_singleton.1 hx) ▸ ge_b2))
  clear z19
  replace hb10 : Bk w15 b2 _ [.int .u64 z10, .int .u64 z15, .int .u64 z13, .int .u64 z18, .int .u64 (hh2 4)] := hb10
  refine ow_nil ?_
  refine tw_keep [(1, _), (3, _), (16, _), (4, _)] ⟨rfl, rfl, rfl, rfl, trivial⟩ ?_
  refine tw_region ?_
  refine ow_g (g_mv rfl) rfl ?_
  refine ow_g (g_ixa Try.underlying26 ty24 rfl rfl (by decide)) rfl ?_
  refine ow_g (g_ldb sc24 rfl hb10 rfl) rfl ?_
  refine ow_gx (e' := z13 % 2251799813685248) (lo := 0) (hi := 2251799813685247) (g_and rfl rfl) (and_mod 51 r17 rfl rfl rfl rfl rfl rfl) (In.wk (in_mod _ (by decide)) rfl) rfl (fun z20 h10 r21 => ?_)
  refine ow_g (g_ixa Try.underlying26 ty24 rfl rfl (by decide)) rfl ?_
  refine ow_d0 (d_st ty24 rfl rfl rfl hb10 rfl) ?_
  rintro _ w16 ⟨hb11, k16, z21⟩
  replace hb2 := hb2.keep k16 (fun hm => absurd (List.mem_singleton.1 hm) ne_b1_b2)
  replace hB := hB.new k16 (fun x hx => .inl ((List.mem_singleton.1 hx) ▸ ge_b2))
  clear z21
  replace hb11 : Bk w16 b2 _ [.int .u64 z10, .int .u64 z15, .int .u64 z20, .int .u64 z18, .int .u64 (hh2 4)] := hb11
  refine ow_nil ?_
  refine tw_keep [(1, _), (3, _), (16, _)] ⟨rfl, rfl, rfl, trivial⟩ ?_
  refine tw_b ?_
  refine tw_region ?_
  refine ow_g (g_fold (j := 3) (g_addw rfl rfl) (by decide)) rfl ?_
  refine ow_g (g_mv rfl) rfl ?_
  refine ow_nil ?_
  refine tw_keep [(1, _), (3, _), (16, _)] ⟨rfl, rfl, rfl, trivial⟩ ?_
  refine tw_lp ?_
  refine tw_seq ?_
  refine tw_region ?_
  refine ow_g (g_lt rfl rfl) rfl ?_
  refine ow_nil ?_
  refine tw_keep [(1, _), (3, _), (16, _), (17, _)] ⟨rfl, rfl, rfl, rfl, trivial⟩ ?_
  refine tw_seq ?_
  refine tw_ifT rfl (by decide) ?_
  refine tw_skip ?_
  refine tw_seq ?_
  refine tw_block ?_
  refine tw_seq ?_
  refine tw_region ?_
  refine ow_g (g_mv rfl) rfl ?_
  refine ow_g (g_as rfl) rfl ?_
  refine ow_nil ?_
  refine tw_keep [(1, _), (3, _), (16, _), (4, _)] ⟨rfl, rfl, rfl, rfl, trivial⟩ ?_
  refine tw_seq ?_
  refine tw_still 9 mixed (by decide +kernel) (fun w17 k17 => ?_)
  replace hb2 := hb2.keep0 k17
  replace hb11 := hb11.keep0 k17
  replace hB := hB.trans k17
  refine sw_g (g_mv rfl) rfl ?_
  refine sw_g (g_fold (j := 4) (g_addw rfl rfl) (by decide)) rfl ?_
  refine sw_g (g_ixa Try.underlying26 ty24 rfl rfl (by decide)) rfl ?_
  refine sw_g (g_ldb sc24 rfl hb11 rfl) rfl ?_
  refine sw_g (g_mv rfl) rfl ?_
  refine sw_g (g_ixa Try.underlying26 ty24 rfl rfl (by decide)) rfl ?_
  refine sw_g (g_ldb sc24 rfl hb11 rfl) rfl ?_
  refine sw_gx (e' := z18 / 2251799813685248) (lo := 0) (hi := 1) (g_shrp (m := 2251799813685248) rfl rfl (by decide) rfl) (rfl) (In.wk (in_div r20 (by decide)) rfl) rfl (fun z22 h11 r22 => ?_)
  refine sw_gx (e' := (hh2 4) + z22) (lo := 0) (hi := 2251799813685248) (g_addw rfl rfl) (wrap_fit (in_add r10 r22) rfl) (In.wk (in_add r10 r22) rfl) rfl (fun z23 h12 r23 => ?_)
  refine sw_nil ?_
  refine ow_g (g_ixa Try.underlying26 ty24 rfl rfl (by decide)) rfl ?_
  refine ow_d0 (d_st ty24 rfl rfl rfl hb11 rfl) ?_
  rintro _ w18 ⟨hb12, k18, z24⟩
  replace hb2 := hb2.keep k18 (fun hm => absurd (List.mem_singleton.1 hm) ne_b1_b2)
  replace hB := hB.new k18 (fun x hx => .inl ((List.mem_singleton.1 hx) ▸ ge_b2))
  clear z24
  replace hb12 : Bk w18 b2 _ [.int .u64 z10, .int .u64 z15, .int .u64 z20, .int .u64 z18, .int .u64 z23] := hb12
  refine ow_nil ?_
  refine tw_keep [(1, _), (3, _), (16, _), (4, _)] ⟨rfl, rfl, rfl, rfl, trivial⟩ ?_
  refine tw_region ?_
  refine ow_g (g_mv rfl) rfl ?_
  refine ow_g (g_ixa Try.underlying26 ty24 rfl rfl (by decide)) rfl ?_
  refine ow_g (g_ldb sc24 rfl hb12 rfl) rfl ?_
  refine ow_gx (e' := z18 % 2251799813685248) (lo := 0) (hi := 2251799813685247) (g_and rfl rfl) (and_mod 51 r20 rfl rfl rfl rfl rfl rfl) (In.wk (in_mod _ (by decide)) rfl) rfl (fun z25 h13 r24 => ?_)
  refine ow_g (g_ixa Try.underlying26 ty24 rfl rfl (by decide)) rfl ?_
  refine ow_d0 (d_st ty24 rfl rfl rfl hb12 rfl) ?_
  rintro _ w19 ⟨hb13, k19, z26⟩
  replace hb2 := hb2.keep k19 (fun hm => absurd (List.mem_singleton.1 hm) ne_b1_b2)
  replace hB := hB.new k19 (fun x hx => .inl ((List.mem_singleton.1 hx) ▸ ge_b2))
  clear z26
  replace hb13 : Bk w19 b2 _ [.int .u64 z10, .int .u64 z15, .int .u64 z20, .int .u64 z25, .int .u64 z23] := hb13
  refine ow_nil ?_
  refine tw_keep [(1, _), (3, _), (16, _)] ⟨rfl, rfl, rfl, trivial⟩ ?_
  refine tw_b ?_
  refine tw_region ?_
  refine ow_g (g_fold (j := 4) (g_addw rfl rfl) (by decide)) rfl ?_
  refine ow_g (g_mv rfl) rfl ?_
  refine ow_nil ?_
  refine tw_keep [(1, _), (3, _), (16, _)] ⟨rfl, rfl, rfl, trivial⟩ ?_
  refine tw_lp ?_
  refine tw_seq ?_
  refine tw_region ?_
  refine ow_g (g_lt rfl rfl) rfl ?_
  refine ow_nil ?_
  refine tw_keep [(1, _), (3, _), (16, _), (17, _)] ⟨rfl, rfl, rfl, rfl, trivial⟩ ?_
  refine tw_seq ?_
  refine tw_ifF rfl (by decide) ?_
  refine tw_exit rfl ?_
  refine tw_seq ?_
  refine tw_seq ?_
  refine tw_region ?_
  refine ow_g (g_ixa Try.underlying26 ty24 rfl rfl (by decide)) rfl ?_
  refine ow_g (g_ldb sc24 rfl hb13 rfl) rfl ?_
  refine ow_gx (e' := z23 / 2251799813685248) (lo := 0) (hi := 1) (g_shrp (m := 2251799813685248) rfl rfl (by decide) rfl) (rfl) (In.wk (in_div r23 (by decide)) rfl) rfl (fun z27 h14 r25 => ?_)
  refine ow_g (g_ne rfl rfl) rfl ?_
  refine ow_nil ?_
  refine tw_keep [(1, _), (3, _), (38, _)] ⟨rfl, rfl, rfl, trivial⟩ ?_
  refine tw_if rfl (fun hc1 => ?_) (fun hc1 => ?_)
  · -- yes
    refine tw_seq ?_
    refine tw_region ?_
    refine ow_g (g_ixa Try.underlying26 ty24 rfl rfl (by decide)) rfl ?_
    refine ow_g (g_ldb sc24 rfl hb13 rfl) rfl ?_
    refine ow_gx (e' := z23 % 2251799813685248) (lo := 0) (hi := 2251799813685247) (g_and rfl rfl) (and_mod 51 r23 rfl rfl rfl rfl rfl rfl) (In.wk (in_mod _ (by decide)) rfl) rfl (fun z28 h15 r26 => ?_)
    refine ow_g (g_ixa Try.underlying26 ty24 rfl rfl (by decide)) rfl ?_
    refine ow_d0 (d_st ty24 rfl rfl rfl hb13 rfl) ?_
    rintro _ w20 ⟨hb14, k20, z29⟩
    replace hb2 := hb2.keep k20 (fun hm => absurd (List.mem_singleton.1 hm) ne_b1_b2)
    replace hB := hB.new k20 (fun x hx => .inl ((List.mem_singleton.1 hx) ▸ ge_b2))
    clear z29
    replace hb14 : Bk w20 b2 _ [.int .u64 z10, .int .u64 z15, .int .u64 z20, .int .u64 z25, .int .u64 z28] := hb14
    refine ow_nil ?_
    refine tw_keep [(1, _), (3, _)] ⟨rfl, rfl, trivial⟩ ?_
    refine tw_region ?_
    refine ow_g (g_ldab (cs' := [_, _, _, _, _]) ag26 ty26 rfl hb14 rfl rfl) rfl ?_
    refine ow_d0 (d_sta ty26 rfl rfl rfl (by simp only [List.forall_mem_cons]; refine ⟨rfl, rfl, rfl, rfl, rfl, fun v hv => by cases hv⟩) hb2 rfl) ?_
    rintro _ w21 ⟨hb15, k21, z30⟩
    replace hb14 := hb14.keep k21 (fun hm => absurd (List.mem_singleton.1 hm) (Ne.symm ne_b1_b2))
    replace hB := hB.new k21 (fun x hx => .inl ((List.mem_singleton.1 hx) ▸ ge_b1))
    clear z30
    replace hb15 : Bk w21 b1 _ [.int .u64 z10, .int .u64 z15, .int .u64 z20, .int .u64 z25, .int .u64 z28] := hb15
    refine ow_nil ?_
    refine tw_keep [(1, _)] ⟨rfl, trivial⟩ ?_
    refine tw_seq ?_
    refine tw_region ?_
    refine ow_g (g_ixa Try.underlying26 ty24 rfl rfl (by decide)) rfl ?_
    refine ow_g (g_ldb sc24 rfl hb15 rfl) rfl ?_
    refine ow_g (g_ixa Try.underlying26 ty24 rfl rfl (by decide)) rfl ?_
    refine ow_g (g_ldb sc24 rfl hb15 rfl) rfl ?_
    refine ow_gx (e' := (z15 * 2251799813685248) % 18446744073709551616) (lo := 0) (hi := 18446744073709551615) (g_shlp (m := 2251799813685248) rfl rfl (by decide) rfl) (wrap_uns rfl _) (In.wk (in_mod _ (by decide)) rfl) rfl (fun z31 h16 r27 => ?_)
    refine ow_gx (e' := z10 + z31) (lo := 0) (hi := 18446744073709551615) (g_or rfl rfl) (or_join' 51 (m := 2251799813685248) r27 rfl r15 rfl rfl rfl rfl (eq_mod h16 (mul_mod_mod _ (by decide))) rfl rfl) (In.wk (or_in (k := .u64) rfl (or_join' 51 (m := 2251799813685248) r27 rfl r15 rfl rfl rfl rfl (eq_mod h16 (mul_mod_mod _ (by decide))) rfl rfl)) rfl) rfl (fun z32 h17 r28 => ?_)
    refine ow_g (g_ixa Try.underlying26 ty24 rfl rfl (by decide)) rfl ?_
    refine ow_g (g_ldb sc24 rfl hb15 rfl) rfl ?_
    refine ow_gx (e' := z15 / 8192) (lo := 0) (hi := 274877906943) (g_shrp (m := 8192) rfl rfl (by decide) rfl) (rfl) (In.wk (in_div r18 (by decide)) rfl) rfl (fun z33 h18 r29 => ?_)
    refine ow_g (g_ixa Try.underlying26 ty24 rfl rfl (by decide)) rfl ?_
    refine ow_g (g_ldb sc24 rfl hb15 rfl) rfl ?_
    refine ow_gx (e' := (z20 * 274877906944) % 18446744073709551616) (lo := 0) (hi := 18446744073709551615) (g_shlp (m := 274877906944) rfl rfl (by decide) rfl) (wrap_uns rfl _) (In.wk (in_mod _ (by decide)) rfl) rfl (fun z34 h19 r30 => ?_)
    refine ow_gx (e' := z33 + z34) (lo := 0) (hi := 18446744073709551615) (g_or rfl rfl) (or_join' 38 (m := 274877906944) r30 rfl r29 rfl rfl rfl rfl (eq_mod h19 (mul_mod_mod _ (by decide))) rfl rfl) (In.wk (or_in (k := .u64) rfl (or_join' 38 (m := 274877906944) r30 rfl r29 rfl rfl rfl rfl (eq_mod h19 (mul_mod_mod _ (by decide))) rfl rfl)) rfl) rfl (fun z35 h20 r31 => ?_)
    refine ow_g (g_ixa Try.underlying26 ty24 rfl rfl (by decide)) rfl ?_
    refine ow_g (g_ldb sc24 rfl hb15 rfl) rfl ?_
    refine ow_gx (e' := z20 / 67108864) (lo := 0) (hi := 33554431) (g_shrp (m := 67108864) rfl rfl (by decide) rfl) (rfl) (In.wk (in_div r21 (by decide)) rfl) rfl (fun z36 h21 r32 => ?_)
    refine ow_g (g_ixa Try.underlying26 ty24 rfl rfl (by decide)) rfl ?_
    refine ow_g (g_ldb sc24 rfl hb15 rfl) rfl ?_
    refine ow_gx (e' := (z25 * 33554432) % 18446744073709551616) (lo := 0) (hi := 18446744073709551615) (g_shlp (m := 33554432) rfl rfl (by decide) rfl) (wrap_uns rfl _) (In.wk (in_mod _ (by decide)) rfl) rfl (fun z37 h22 r33 => ?_)
    refine ow_gx (e' := z36 + z37) (lo := 0) (hi := 18446744073709551615) (g_or rfl rfl) (or_join' 25 (m := 33554432) r33 rfl r32 rfl rfl rfl rfl (eq_mod h22 (mul_mod_mod _ (by decide))) rfl rfl) (In.wk (or_in (k := .u64) rfl (or_join' 25 (m := 33554432) r33 rfl r32 rfl rfl rfl rfl (eq_mod h22 (mul_mod_mod _ (by decide))) rfl rfl)) rfl) rfl (fun z38 h23 r34 => ?_)
    refine ow_g (g_ixa Try.underlying26 ty24 rfl rfl (by decide)) rfl ?_
    refine ow_g (g_ldb sc24 rfl hb15 rfl) rfl ?_
    refine ow_gx (e' := z25 / 549755813888) (lo := 0) (hi := 4095) (g_shrp (m := 549755813888) rfl rfl (by decide) rfl) (rfl) (In.wk (in_div r24 (by decide)) rfl) rfl (fun z39 h24 r35 => ?_)
    refine ow_g (g_ixa Try.underlying26 ty24 rfl rfl (by decide)) rfl ?_
    refine ow_g (g_ldb sc24 rfl hb15 rfl) rfl ?_
    refine ow_gx (e' := z28 * 4096) (lo := 0) (hi := 9223372036854771712) (g_shlp (m := 4096) rfl rfl (by decide) rfl) (wrap_fit (in_mulc r26 (by decide)) rfl) (In.wk (in_mulc r26 (by decide)) rfl) rfl (fun z40 h25 r36 => ?_)
    refine ow_gx (e' := z39 + z40) (lo := 0) (hi := 9223372036854775807) (g_or rfl rfl) (or_join' 12 (m := 4096) r36 rfl r35 rfl rfl rfl rfl (eq_mod h25 (Int.mul_emod_left _ _)) rfl rfl) (In.wk (in_add r35 r36) rfl) rfl (fun z41 h26 r37 => ?_)
    refine ow_g (g_blda (idx := [0, 1, 2, 3]) (xs := [.tmp 49, .tmp 56, .tmp 63, .tmp 70]) (vs := [_, _, _, _]) (css := [[.int .u64 z32], [.int .u64 z35], [.int .u64 z38], [.int .u64 z41]]) (out := [.int .u64 z32, .int .u64 z35, .int .u64 z38, .int .u64 z41]) Try.underlying104 ty24 ty104 (arr_pls 4 1) rfl rfl ⟨rfl, rfl, rfl, rfl, trivial⟩ rfl rfl) rfl ?_
    refine ow_d (d_alloc ty104) rfl ?_
    rintro _ w22 ⟨b3, rfl, eb3, hb16, k22, z42⟩
    have ge_b3 : w.heap.size ≤ b3 := by have := hB.size; omega
    have ne_b2_b3 : b2 ≠ b3 := by have := hb14.lt; omega
    have ne_b1_b3 : b1 ≠ b3 := by have := hb15.lt; omega
    replace hb14 := hb14.keep0 k22
    replace hb15 := hb15.keep0 k22
    replace hB := hB.trans k22
    clear eb3 z42
    refine ow_d0 (d_sta ty104 rfl rfl rfl (by simp only [List.forall_mem_cons]; refine ⟨rfl, rfl, rfl, rfl, fun v hv => by cases hv⟩) hb16 rfl) ?_
    rintro _ w23 ⟨hb17, k23, z43⟩
    replace hb14 := hb14.keep k23 (fun hm => absurd (List.mem_singleton.1 hm) ne_b2_b3)
    replace hb15 := hb15.keep k23 (fun hm => absurd (List.mem_singleton.1 hm) ne_b1_b3)
    replace hB := hB.new k23 (fun x hx => .inl ((List.mem_singleton.1 hx) ▸ ge_b3))
    clear z43
    replace hb17 : Bk w23 b3 _ [.int .u64 z32, .int .u64 z35, .int .u64 z38, .int .u64 z41] := hb17
    refine ow_nil ?_
    refine tw_seq ?_
    refine tw_region ?_
    refine ow_d (d_mk Try.underlying22 ty5 rfl rfl (by omega) (by constructor <;> omega)) rfl ?_
    rintro v1 w24 ⟨o1, nn1, lb1, k24, z44⟩
    have go_v1 := fun x hx => (show w.heap.size ≤ x from by have h1 := (o1.blk x hx).1; have h2 := hB.size; omega)
    have gl_v1 := hB.size
    have gl_o1 := hB.size
    have sb_b2_o1 := fun x hx => (show x ≠ b2 from by have h1 := (o1.blk x hx).1; have h2 := hb14.lt; omega)
    have sb_b1_o1 := fun x hx => (show x ≠ b1 from by have h1 := (o1.blk x hx).1; have h2 := hb15.lt; omega)
    have sb_b3_o1 := fun x hx => (show x ≠ b3 from by have h1 := (o1.blk x hx).1; have h2 := hb17.lt; omega)
    replace hb14 := hb14.keep0 k24
    replace hb15 := hb15.keep0 k24
    replace hb17 := hb17.keep0 k24
    replace hB := hB.trans k24
    have u_o1 := o1.blk
    replace o1 : Own w24 _ 5 1 v1 32 [.int .u8 0, .int .u8 0, .int .u8 0, .int .u8 0, .int .u8 0, .int .u8 0, .int .u8 0, .int .u8 0, .int .u8 0, .int .u8 0, .int .u8 0, .int .u8 0, .int .u8 0, .int .u8 0, .int .u8 0, .int .u8 0, .int .u8 0, .int .u8 0, .int .u8 0, .int .u8 0, .int .u8 0, .int .u8 0, .int .u8 0, .int .u8 0, .int .u8 0, .int .u8 0, .int .u8 0, .int .u8 0, .int .u8 0, .int .u8 0, .int .u8 0, .int .u8 0] := o1
    refine ow_g (g_as rfl) rfl ?_
    refine ow_nil ?_
    refine tw_keep [(5, _), (6, _)] ⟨rfl, rfl, trivial⟩ ?_
    refine tw_seq ?_
    refine tw_seq ?_
    refine tw_region ?_
    refine ow_g (g_mv rfl) rfl ?_
    refine ow_g (g_len Try.underlying22 rfl (by first | assumption | exact Own.rd (by assumption) | exact Rd.keep0 (by assumption) hB | exact Own.rd (Own.keep0 (by assumption) hB))) rfl ?_
    refine ow_g (g_mv rfl) rfl ?_
    refine ow_nil ?_
    refine tw_keep [(5, _), (6, _), (74, _), (75, _)] ⟨rfl, rfl, rfl, rfl, trivial⟩ ?_
    refine tw_block ?_
    refine tw_unroll 32 ?_
    refine tw_seq ?_
    refine tw_region ?_
    refine ow_g (g_lt rfl rfl) rfl ?_
    refine ow_nil ?_
    refine tw_keep [(5, _), (6, _), (74, _), (75, _), (76, _)] ⟨rfl, rfl, rfl, rfl, rfl, trivial⟩ ?_
    refine tw_seq ?_
    refine tw_ifT rfl (by decide) ?_
    refine tw_skip ?_
    refine tw_seq ?_
    refine tw_block ?_
    refine tw_seq ?_
    refine tw_region ?_
    refine ow_g (g_mv rfl) rfl ?_
    refine ow_g (g_as rfl) rfl ?_
    refine ow_nil ?_
    refine tw_keep [(5, _), (6, _), (74, _), (75, _), (7, _)] ⟨rfl, rfl, rfl, rfl, rfl, trivial⟩ ?_
    refine tw_region ?_
    refine ow_g (g_mv rfl) rfl ?_
    refine ow_g (g_mv rfl) rfl ?_
    refine ow_g (g_mv rfl) rfl ?_
    refine ow_g (g_fold (j := 0) (g_quo rfl rfl (by decide)) (by decide)) rfl ?_
    refine ow_g (g_ixa Try.underlying104 ty24 rfl rfl (by decide)) rfl ?_
    refine ow_g (g_ldb sc24 rfl hb17 rfl) rfl ?_
    refine ow_g (g_mv rfl) rfl ?_
    refine ow_g (g_fold (j := 0) (g_rem rfl rfl (by decide)) (by decide)) rfl ?_
    refine ow_g (g_fold (j := 0) (g_mulw rfl rfl) (by decide)) rfl ?_
    refine ow_gx (e' := z32 / 1) (lo := 0) (hi := 18446744073709551615) (g_shrp (m := 1) rfl rfl (by decide) rfl) (rfl) (In.wk (in_div r28 (by decide)) rfl) rfl (fun z45 h27 r38 => ?_)
    refine ow_gx (e' := z45 % 256) (lo := 0) (hi := 255) (g_cv (by rw [Try.underlying24]; rfl) Try.underlying5 rfl) (wrap_uns rfl _) (In.wk (in_mod _ (by decide)) rfl) rfl (fun z46 h28 r39 => ?_)
    refine ow_g (g_ix Try.underlying22 ty5 rfl (by first | assumption | exact Own.rd (by assumption) | exact Rd.keep0 (by assumption) hB | exact Own.rd (Own.keep0 (by assumption) hB)) rfl (by omega)) rfl ?_
    refine ow_d0 (d_sto (u := .int .u8 z46) ty5 rfl rfl rfl o1 (blt_lt rfl)) ?_
    rintro _ w25 ⟨o2, k25, z47⟩
    have z_k25 := k25.size
    replace o2 : Own w25 _ 5 1 v1 32 [.int .u8 z46, .int .u8 0, .int .u8 0, .int .u8 0, .int .u8 0, .int .u8 0, .int .u8 0, .int .u8 0, .int .u8 0, .int .u8 0, .int .u8 0, .int .u8 0, .int .u8 0, .int .u8 0, .int .u8 0, .int .u8 0, .int .u8 0, .int .u8 0, .int .u8 0, .int .u8 0, .int .u8 0, .int .u8 0, .int .u8 0, .int .u8 0, .int .u8 0, .int .u8 0, .int .u8 0, .int .u8 0, .int .u8 0, .int .u8 0, .int .u8 0, .int .u8 0] := o2
    replace hb14 := hb14.keep k25 (fun hm => sb_b2_o1 _ hm rfl)
    replace hb15 := hb15.keep k25 (fun hm => sb_b1_o1 _ hm rfl)
    replace hb17 := hb17.keep k25 (fun hm => sb_b3_o1 _ hm rfl)
    replace hB := hB.new k25 (fun x hx => .inl (go_v1 x hx))
    clear z_k25 z47
    refine ow_nil ?_
    refine tw_keep [(5, _), (6, _), (74, _), (75, _)] ⟨rfl, rfl, rfl, rfl, trivial⟩ ?_
    refine tw_b ?_
    refine tw_region ?_
    refine ow_g (g_fold (j := 1) (g_addw rfl rfl) (by decide)) rfl ?_
    refine ow_g (g_mv rfl) rfl ?_
    refine ow_nil ?_
    refine tw_keep [(5, _), (6, _), (74, _), (75, _)] ⟨rfl, rfl, rfl, rfl, trivial⟩ ?_
    refine tw_lp ?_
    refine tw_seq ?_
    refine tw_region ?_
    refine ow_g (g_lt rfl rfl) rfl ?_
    refine ow_nil ?_
    refine tw_keep [(5, _), (6, _), (74, _), (75, _), (76, _)] ⟨rfl, rfl, rfl, rfl, rfl, trivial⟩ ?_
    refine tw_seq ?_
    refine tw_ifT rfl (by decide) ?_
    refine tw_skip ?_
    refine tw_seq ?_
    refine tw_block ?_
    refine tw_seq ?_
    refine tw_region ?_
    refine ow_g (g_mv rfl) rfl ?_
    refine ow_g (g_as rfl) rfl ?_
    refine ow_nil ?_
    refine tw_keep [(5, _), (6, _), (74, _), (75, _), (7, _)] ⟨rfl, rfl, rfl, rfl, rfl, trivial⟩ ?_
    refine tw_region ?_
    refine ow_g (g_mv rfl) rfl ?_
    refine ow_g (g_mv rfl) rfl ?_
    refine ow_g (g_mv rfl) rfl ?_
    refine ow_g (g_fold (j := 0) (g_quo rfl rfl (by decide)) (by decide)) rfl ?_
    refine ow_g (g_ixa Try.underlying104 ty24 rfl rfl (by decide)) rfl ?_
    refine ow_g (g_ldb sc24 rfl hb17 rfl) rfl ?_
    refine ow_g (g_mv rfl) rfl ?_
    refine ow_g (g_fold (j := 1) (g_rem rfl rfl (by decide)) (by decide)) rfl ?_
    refine ow_g (g_fold (j := 8) (g_mulw rfl rfl) (by decide)) rfl ?_
    refine ow_gx (e' := z32 / 256) (lo := 0) (hi := 72057594037927935) (g_shrp (m := 256) rfl rfl (by decide) rfl) (rfl) (In.wk (in_div r28 (by decide)) rfl) rfl (fun z48 h29 r40 => ?_)
    refine ow_gx (e' := z48 % 256) (lo := 0) (hi := 255) (g_cv (by rw [Try.underlying24]; rfl) Try.underlying5 rfl) (wrap_uns rfl _) (In.wk (in_mod _ (by decide)) rfl) rfl (fun z49 h30 r41 => ?_)
    refine ow_g (g_ix Try.underlying22 ty5 rfl (by first | assumption | exact Own.rd (by assumption) | exact Rd.keep0 (by assumption) hB | exact Own.rd (Own.keep0 (by assumption) hB)) rfl (by omega)) rfl ?_
    refine ow_d0 (d_sto (u := .int .u8 z49) ty5 rfl rfl rfl o2 (blt_lt rfl)) ?_
    rintro _ w26 ⟨o3, k26, z50⟩
    have z_k26 := k26.size
    replace o3 : Own w26 _ 5 1 v1 32 [.int .u8 z46, .int .u8 z49, .int .u8 0, .int .u8 0, .int .u8 0, .int .u8 0, .int .u8 0, .int .u8 0, .int .u8 0, .int .u8 0, .int .u8 0, .int .u8 0, .int .u8 0, .int .u8 0, .int .u8 0, .int .u8 0, .int .u8 0, .int .u8 0, .int .u8 0, .int .u8 0, .int .u8 0, .int .u8 0, .int .u8 0, .int .u8 0, .int .u8 0, .int .u8 0, .int .u8 0, .int .u8 0, .int .u8 0, .int .u8 0, .int .u8 0, .int .u8 0] := o3
    replace hb14 := hb14.keep k26 (fun hm => sb_b2_o1 _ hm rfl)
    replace hb15 := hb15.keep k26 (fun hm => sb_b1_o1 _ hm rfl)
    replace hb17 := hb17.keep k26 (fun hm => sb_b3_o1 _ hm rfl)
    replace hB := hB.new k26 (fun x hx => .inl (go_v1 x hx))
    clear z_k26 z50
    refine ow_nil ?_
    refine tw_keep [(5, _), (6, _), (74, _), (75, _)] ⟨rfl, rfl, rfl, rfl, trivial⟩ ?_
    refine tw_b ?_
    refine tw_region ?_
    refine ow_g (g_fold (j := 2) (g_addw rfl rfl) (by decide)) rfl ?_
    refine ow_g (g_mv rfl) rfl ?_
    refine ow_nil ?_
    refine tw_keep [(5, _), (6, _), (74, _), (75, _)] ⟨rfl, rfl, rfl, rfl, trivial⟩ ?_
    refine tw_lp ?_
    refine tw_seq ?_
    refine tw_region ?_
    refine ow_g (g_lt rfl rfl) rfl ?_
    refine ow_nil ?_
    refine tw_keep [(5, _), (6, _), (74, _), (75, _), (76, _)] ⟨rfl, rfl, rfl, rfl, rfl, trivial⟩ ?_
    refine tw_seq ?_
    refine tw_ifT rfl (by decide) ?_
    refine tw_skip ?_
    refine tw_seq ?_
    refine tw_block ?_
    refine tw_seq ?_
    refine tw_region ?_
    refine ow_g (g_mv rfl) rfl ?_
    refine ow_g (g_as rfl) rfl ?_
    refine ow_nil ?_
    refine tw_keep [(5, _), (6, _), (74, _), (75, _), (7, _)] ⟨rfl, rfl, rfl, rfl, rfl, trivial⟩ ?_
    refine tw_region ?_
    refine ow_g (g_mv rfl) rfl ?_
    refine ow_g (g_mv rfl) rfl ?_
    refine ow_g (g_mv rfl) rfl ?_
    refine ow_g (g_fold (j := 0) (g_quo rfl rfl (by decide)) (by decide)) rfl ?_
    refine ow_g (g_ixa Try.underlying104 ty24 rfl rfl (by decide)) rfl ?_
    refine ow_g (g_ldb sc24 rfl hb17 rfl) rfl ?_
    refine ow_g (g_mv rfl) rfl ?_
    refine ow_g (g_fold (j := 2) (g_rem rfl rfl (by decide)) (by decide)) rfl ?_
    refine ow_g (g_fold (j := 16) (g_mulw rfl rfl) (by decide)) rfl ?_
    refine ow_gx (e' := z32 / 65536) (lo := 0) (hi := 281474976710655) (g_shrp (m := 65536) rfl rfl (by decide) rfl) (rfl) (In.wk (in_div r28 (by decide)) rfl) rfl (fun z51 h31 r42 => ?_)
    refine ow_gx (e' := z51 % 256) (lo := 0) (hi := 255) (g_cv (by rw [Try.underlying24]; rfl) Try.underlying5 rfl) (wrap_uns rfl _) (In.wk (in_mod _ (by decide)) rfl) rfl (fun z52 h32 r43 => ?_)
    refine ow_g (g_ix Try.underlying22 ty5 rfl (by first | assumption | exact Own.rd (by assumption) | exact Rd.keep0 (by assumption) hB | exact Own.rd (Own.keep0 (by assumption) hB)) rfl (by omega)) rfl ?_
    refine ow_d0 (d_sto (u := .int .u8 z52) ty5 rfl rfl rfl o3 (blt_lt rfl)) ?_
    rintro _ w27 ⟨o4, k27, z53⟩
    have z_k27 := k27.size
    replace o4 : Own w27 _ 5 1 v1 32 [.int .u8 z46, .int .u8 z49, .int .u8 z52, .int .u8 0, .int .u8 0, .int .u8 0, .int .u8 0, .int .u8 0, .int .u8 0, .int .u8 0, .int .u8 0, .int .u8 0, .int .u8 0, .int .u8 0, .int .u8 0, .int .u8 0, .int .u8 0, .int .u8 0, .int .u8 0, .int .u8 0, .int .u8 0, .int .u8 0, .int .u8 0, .int .u8 0, .int .u8 0, .int .u8 0, .int .u8 0, .int .u8 0, .int .u8 0, .int .u8 0, .int .u8 0, .int .u8 0] := o4
    replace hb14 := hb14.keep k27 (fun hm => sb_b2_o1 _ hm rfl)
    replace hb15 := hb15.keep k27 (fun hm => sb_b1_o1 _ hm rfl)
    replace hb17 := hb17.keep k27 (fun hm => sb_b3_o1 _ hm rfl)
    replace hB := hB.new k27 (fun x hx => .inl (go_v1 x hx))
    clear z_k27 z53
    refine ow_nil ?_
    refine tw_keep [(5, _), (6, _), (74, _), (75, _)] ⟨rfl, rfl, rfl, rfl, trivial⟩ ?_
    refine tw_b ?_
    refine tw_region ?_
    refine ow_g (g_fold (j := 3) (g_addw rfl rfl) (by decide)) rfl ?_
    refine ow_g (g_mv rfl) rfl ?_
    refine ow_nil ?_
    refine tw_keep [(5, _), (6, _), (74, _), (75, _)] ⟨rfl, rfl, rfl, rfl, trivial⟩ ?_
    refine tw_lp ?_
    refine tw_seq ?_
    refine tw_region ?_
    refine ow_g (g_lt rfl rfl) rfl ?_
    refine ow_nil ?_
    refine tw_keep [(5, _), (6, _), (74, _), (75, _), (76, _)] ⟨rfl, rfl, rfl, rfl, rfl, trivial⟩ ?_
    refine tw_seq ?_
    refine tw_ifT rfl (by decide) ?_
    refine tw_skip ?_
    refine tw_seq ?_
    refine tw_block ?_
    refine tw_seq ?_
    refine tw_region ?_
    refine ow_g (g_mv rfl) rfl ?_
    refine ow_g (g_as rfl) rfl ?_
    refine ow_nil ?_
    refine tw_keep [(5, _), (6, _), (74, _), (75, _), (7, _)] ⟨rfl, rfl, rfl, rfl, rfl, trivial⟩ ?_
    refine tw_region ?_
    refine ow_g (g_mv rfl) rfl ?_
    refine ow_g (g_mv rfl) rfl ?_
    refine ow_g (g_mv rfl) rfl ?_
    refine ow_g (g_fold (j := 0) (g_quo rfl rfl (by decide)) (by decide)) rfl ?_
    refine ow_g (g_ixa Try.underlying104 ty24 rfl rfl (by decide)) rfl ?_
    refine ow_g (g_ldb sc24 rfl hb17 rfl) rfl ?_
    refine ow_g (g_mv rfl) rfl ?_
    refine ow_g (g_fold (j := 3) (g_rem rfl rfl (by decide)) (by decide)) rfl ?_
    refine ow_g (g_fold (j := 24) (g_mulw rfl rfl) (by decide)) rfl ?_
    refine ow_gx (e' := z32 / 16777216) (lo := 0) (hi := 1099511627775) (g_shrp (m := 16777216) rfl rfl (by decide) rfl) (rfl) (In.wk (in_div r28 (by decide)) rfl) rfl (fun z54 h33 r44 => ?_)
    refine ow_gx (e' := z54 % 256) (lo := 0) (hi := 255) (g_cv (by rw [Try.underlying24]; rfl) Try.underlying5 rfl) (wrap_uns rfl _) (In.wk (in_mod _ (by decide)) rfl) rfl (fun z55 h34 r45 => ?_)
    refine ow_g (g_ix Try.underlying22 ty5 rfl (by first | assumption | exact Own.rd (by assumption) | exact Rd.keep0 (by assumption) hB | exact Own.rd (Own.keep0 (by assumption) hB)) rfl (by omega)) rfl ?_
    refine ow_d0 (d_sto (u := .int .u8 z55) ty5 rfl rfl rfl o4 (blt_lt rfl)) ?_
    rintro _ w28 ⟨o5, k28, z56⟩
    have z_k28 := k28.size
    replace o5 : Own w28 _ 5 1 v1 32 [.int .u8 z46, .int .u8 z49, .int .u8 z52, .int .u8 z55, .int .u8 0, .int .u8 0, .int .u8 0, .int .u8 0, .int .u8 0, .int .u8 0, .int .u8 0, .int .u8 0, .int .u8 0, .int .u8 0, .int .u8 0, .int .u8 0, .int .u8 0, .int .u8 0, .int .u8 0, .int .u8 0, .int .u8 0, .int .u8 0, .int .u8 0, .int .u8 0, .int .u8 0, .int .u8 0, .int .u8 0, .int .u8 0, .int .u8 0, .int .u8 0, .int .u8 0, .int .u8 0] := o5
    replace hb14 := hb14.keep k28 (fun hm => sb_b2_o1 _ hm rfl)
    replace hb15 := hb15.keep k28 (fun hm => sb_b1_o1 _ hm rfl)
    replace hb17 := hb17.keep k28 (fun hm => sb_b3_o1 _ hm rfl)
    replace hB := hB.new k28 (fun x hx => .inl (go_v1 x hx))
    clear z_k28 z56
    refine ow_nil ?_
    refine tw_keep [(5, _), (6, _), (74, _), (75, _)] ⟨rfl, rfl, rfl, rfl, trivial⟩ ?_
    refine tw_b ?_
    refine tw_region ?_
    refine ow_g (g_fold (j := 4) (g_addw rfl rfl) (by decide)) rfl ?_
    refine ow_g (g_mv rfl) rfl ?_
    refine ow_nil ?_
    refine tw_keep [(5, _), (6, _), (74, _), (75, _)] ⟨rfl, rfl, rfl, rfl, trivial⟩ ?_
    refine tw_lp ?_
    refine tw_seq ?_
    refine tw_region ?_
    refine ow_g (g_lt rfl rfl) rfl ?_
    refine ow_nil ?_
    refine tw_keep [(5, _), (6, _), (74, _), (75, _), (76, _)] ⟨rfl, rfl, rfl, rfl, rfl, trivial⟩ ?_
    refine tw_seq ?_
    refine tw_ifT rfl (by decide) ?_
    refine tw_skip ?_
    refine tw_seq ?_
    refine tw_block ?_
    refine tw_seq ?_
    refine tw_region ?_
    refine ow_g (g_mv rfl) rfl ?_
    refine ow_g (g_as rfl) rfl ?_
    refine ow_nil ?_
    refine tw_keep [(5, _), (6, _), (74, _), (75, _), (7, _)] ⟨rfl, rfl, rfl, rfl, rfl, trivial⟩ ?_
    refine tw_region ?_
    refine ow_g (g_mv rfl) rfl ?_
    refine ow_g (g_mv rfl) rfl ?_
    refine ow_g (g_mv rfl) rfl ?_
    refine ow_g (g_fold (j := 0) (g_quo rfl rfl (by decide)) (by decide)) rfl ?_
    refine ow_g (g_ixa Try.underlying104 ty24 rfl rfl (by decide)) rfl ?_
    refine ow_g (g_ldb sc24 rfl hb17 rfl) rfl ?_
    refine ow_g (g_mv rfl) rfl ?_
    refine ow_g (g_fold (j := 4) (g_rem rfl rfl (by decide)) (by decide)) rfl ?_
    refine ow_g (g_fold (j := 32) (g_mulw rfl rfl) (by decide)) rfl ?_
    refine ow_gx (e' := z32 / 4294967296) (lo := 0) (hi := 4294967295) (g_shrp (m := 4294967296) rfl rfl (by decide) rfl) (rfl) (In.wk (in_div r28 (by decide)) rfl) rfl (fun z57 h35 r46 => ?_)
    refine ow_gx (e' := z57 % 256) (lo := 0) (hi := 255) (g_cv (by rw [Try.underlying24]; rfl) Try.underlying5 rfl) (wrap_uns rfl _) (In.wk (in_mod _ (by decide)) rfl) rfl (fun z58 h36 r47 => ?_)
    refine ow_g (g_ix Try.underlying22 ty5 rfl (by first | assumption | exact Own.rd (by assumption) | exact Rd.keep0 (by assumption) hB | exact Own.rd (Own.keep0 (by assumption) hB)) rfl (by omega)) rfl ?_
    refine ow_d0 (d_sto (u := .int .u8 z58) ty5 rfl rfl rfl o5 (blt_lt rfl)) ?_
    rintro _ w29 ⟨o6, k29, z59⟩
    have z_k29 := k29.size
    replace o6 : Own w29 _ 5 1 v1 32 [.int .u8 z46, .int .u8 z49, .int .u8 z52, .int .u8 z55, .int .u8 z58, .int .u8 0, .int .u8 0, .int .u8 0, .int .u8 0, .int .u8 0, .int .u8 0, .int .u8 0, .int .u8 0, .int .u8 0, .int .u8 0, .int .u8 0, .int .u8 0, .int .u8 0, .int .u8 0, .int .u8 0, .int .u8 0, .int .u8 0, .int .u8 0, .int .u8 0, .int .u8 0, .int .u8 0, .int .u8 0, .int .u8 0, .int .u8 0, .int .u8 0, .int .u8 0, .int .u8 0] := o6
    replace hb14 := hb14.keep k29 (fun hm => sb_b2_o1 _ hm rfl)
    replace hb15 := hb15.keep k29 (fun hm => sb_b1_o1 _ hm rfl)
    replace hb17 := hb17.keep k29 (fun hm => sb_b3_o1 _ hm rfl)
    replace hB := hB.new k29 (fun x hx => .inl (go_v1 x hx))
    clear z_k29 z59
    refine ow_nil ?_
    refine tw_keep [(5, _), (6, _), (74, _), (75, _)] ⟨rfl, rfl, rfl, rfl, trivial⟩ ?_
    refine tw_b ?_
    refine tw_region ?_
    refine ow_g (g_fold (j := 5) (g_addw rfl rfl) (by decide)) rfl ?_
    refine ow_g (g_mv rfl) rfl ?_
    refine ow_nil ?_
    refine tw_keep [(5, _), (6, _), (74, _), (75, _)] ⟨rfl, rfl, rfl, rfl, trivial⟩ ?_
    refine tw_lp ?_
    refine tw_seq ?_
    refine tw_region ?_
    refine ow_g (g_lt rfl rfl) rfl ?_
    refine ow_nil ?_
    refine tw_keep [(5, _), (6, _), (74, _), (75, _), (76, _)] ⟨rfl, rfl, rfl, rfl, rfl, trivial⟩ ?_
    refine tw_seq ?_
    refine tw_ifT rfl (by decide) ?_
    refine tw_skip ?_
    refine tw_seq ?_
    refine tw_block ?_
    refine tw_seq ?_
    refine tw_region ?_
    refine ow_g (g_mv rfl) rfl ?_
    refine ow_g (g_as rfl) rfl ?_
    refine ow_nil ?_
    refine tw_keep [(5, _), (6, _), (74, _), (75, _), (7, _)] ⟨rfl, rfl, rfl, rfl, rfl, trivial⟩ ?_
    refine tw_region ?_
    refine ow_g (g_mv rfl) rfl ?_
    refine ow_g (g_mv rfl) rfl ?_
    refine ow_g (g_mv rfl) rfl ?_
    refine ow_g (g_fold (j := 0) (g_quo rfl rfl (by decide)) (by decide)) rfl ?_
    refine ow_g (g_ixa Try.underlying104 ty24 rfl rfl (by decide)) rfl ?_
    refine ow_g (g_ldb sc24 rfl hb17 rfl) rfl ?_
    refine ow_g (g_mv rfl) rfl ?_
    refine ow_g (g_fold (j := 5) (g_rem rfl rfl (by decide)) (by decide)) rfl ?_
    refine ow_g (g_fold (j := 40) (g_mulw rfl rfl) (by decide)) rfl ?_
    refine ow_gx (e' := z32 / 1099511627776) (lo := 0) (hi := 16777215) (g_shrp (m := 1099511627776) rfl rfl (by decide) rfl) (rfl) (In.wk (in_div r28 (by decide)) rfl) rfl (fun z60 h37 r48 => ?_)
    refine ow_gx (e' := z60 % 256) (lo := 0) (hi := 255) (g_cv (by rw [Try.underlying24]; rfl) Try.underlying5 rfl) (wrap_uns rfl _) (In.wk (in_mod _ (by decide)) rfl) rfl (fun z61 h38 r49 => ?_)
    refine ow_g (g_ix Try.underlying22 ty5 rfl (by first | assumption | exact Own.rd (by assumption) | exact Rd.keep0 (by assumption) hB | exact Own.rd (Own.keep0 (by assumption) hB)) rfl (by omega)) rfl ?_
    refine ow_d0 (d_sto (u := .int .u8 z61) ty5 rfl rfl rfl o6 (blt_lt rfl)) ?_
    rintro _ w30 ⟨o7, k30, z62⟩
    have z_k30 := k30.size
    replace o7 : Own w30 _ 5 1 v1 32 [.int .u8 z46, .int .u8 z49, .int .u8 z52, .int .u8 z55, .int .u8 z58, .int .u8 z61, .int .u8 0, .int .u8 0, .int .u8 0, .int .u8 0, .int .u8 0, .int .u8 0, .int .u8 0, .int .u8 0, .int .u8 0, .int .u8 0, .int .u8 0, .int .u8 0, .int .u8 0, .int .u8 0, .int .u8 0, .int .u8 0, .int .u8 0, .int .u8 0, .int .u8 0, .int .u8 0, .int .u8 0, .int .u8 0, .int .u8 0, .int .u8 0, .int .u8 0, .int .u8 0] := o7
    replace hb14 := hb14.keep k30 (fun hm => sb_b2_o1 _ hm rfl)
    replace hb15 := hb15.keep k30 (fun hm => sb_b1_o1 _ hm rfl)
    replace hb17 := hb17.keep k30 (fun hm => sb_b3_o1 _ hm rfl)
    replace hB := hB.new k30 (fun x hx => .inl (go_v1 x hx))
    clear z_k30 z62
    refine ow_nil ?_
    refine tw_keep [(5, _), (6, _), (74, _), (75, _)] ⟨rfl, rfl, rfl, rfl, trivial⟩ ?_
    refine tw_b ?_
    refine tw_region ?_
    refine ow_g (g_fold (j := 6) (g_addw rfl rfl) (by decide)) rfl ?_
    refine ow_g (g_mv rfl) rfl ?_
    refine ow_nil ?_
    refine tw_keep [(5, _), (6, _), (74, _), (75, _)] ⟨rfl, rfl, rfl, rfl, trivial⟩ ?_
    refine tw_lp ?_
    refine tw_seq ?_
    refine tw_region ?_
    refine ow_g (g_lt rfl rfl) rfl ?_
    refine ow_nil ?_
    refine tw_keep [(5, _), (6, _), (74, _), (75, _), (76, _)] ⟨rfl, rfl, rfl, rfl, rfl, trivial⟩ ?_
    refine tw_seq ?_
    refine tw_ifT rfl (by decide) ?_
    refine tw_skip ?_
    refine tw_seq ?_
    refine tw_block ?_
    refine tw_seq ?_
    refine tw_region ?_
    refine ow_g (g_mv rfl) rfl ?_
    refine ow_g (g_as rfl) rfl ?_
    refine ow_nil ?_
    refine tw_keep [(5, _), (6, _), (74, _), (75, _), (7, _)] ⟨rfl, rfl, rfl, rfl, rfl, trivial⟩ ?_
    refine tw_region ?_
    refine ow_g (g_mv rfl) rfl ?_
    refine ow_g (g_mv rfl) rfl ?_
    refine ow_g (g_mv rfl) rfl ?_
    refine ow_g (g_fold (j := 0) (g_quo rfl rfl (by decide)) (by decide)) rfl ?_
    refine ow_g (g_ixa Try.underlying104 ty24 rfl rfl (by decide)) rfl ?_
    refine ow_g (g_ldb sc24 rfl hb17 rfl) rfl ?_
    refine ow_g (g_mv rfl) rfl ?_
    refine ow_g (g_fold (j := 6) (g_rem rfl rfl (by decide)) (by decide)) rfl ?_
    refine ow_g (g_fold (j := 48) (g_mulw rfl rfl) (by decide)) rfl ?_
    refine ow_gx (e' := z32 / 281474976710656) (lo := 0) (hi := 65535) (g_shrp (m := 281474976710656) rfl rfl (by decide) rfl) (rfl) (In.wk (in_div r28 (by decide)) rfl) rfl (fun z63 h39 r50 => ?_)
    refine ow_gx (e' := z63 % 256) (lo := 0) (hi := 255) (g_cv (by rw [Try.underlying24]; rfl) Try.underlying5 rfl) (wrap_uns rfl _) (In.wk (in_mod _ (by decide)) rfl) rfl (fun z64 h40 r51 => ?_)
    refine ow_g (g_ix Try.underlying22 ty5 rfl (by first | assumption | exact Own.rd (by assumption) | exact Rd.keep0 (by assumption) hB | exact Own.rd (Own.keep0 (by assumption) hB)) rfl (by omega)) rfl ?_
    refine ow_d0 (d_sto (u := .int .u8 z64) ty5 rfl rfl rfl o7 (blt_lt rfl)) ?_
    rintro _ w31 ⟨o8, k31, z65⟩
    have z_k31 := k31.size
    replace o8 : Own w31 _ 5 1 v1 32 [.int .u8 z46, .int .u8 z49, .int .u8 z52, .int .u8 z55, .int .u8 z58, .int .u8 z61, .int .u8 z64, .int .u8 0, .int .u8 0, .int .u8 0, .int .u8 0, .int .u8 0, .int .u8 0, .int .u8 0, .int .u8 0, .int .u8 0, .int .u8 0, .int .u8 0, .int .u8 0, .int .u8 0, .int .u8 0, .int .u8 0, .int .u8 0, .int .u8 0, .int .u8 0, .int .u8 0, .int .u8 0, .int .u8 0, .int .u8 0, .int .u8 0, .int .u8 0, .int .u8 0] := o8
    replace hb14 := hb14.keep k31 (fun hm => sb_b2_o1 _ hm rfl)
    replace hb15 := hb15.keep k31 (fun hm => sb_b1_o1 _ hm rfl)
    replace hb17 := hb17.keep k31 (fun hm => sb_b3_o1 _ hm rfl)
    replace hB := hB.new k31 (fun x hx => .inl (go_v1 x hx))
    clear z_k31 z65
    refine ow_nil ?_
    refine tw_keep [(5, _), (6, _), (74, _), (75, _)] ⟨rfl, rfl, rfl, rfl, trivial⟩ ?_
    refine tw_b ?_
    refine tw_region ?_
    refine ow_g (g_fold (j := 7) (g_addw rfl rfl) (by decide)) rfl ?_
    refine ow_g (g_mv rfl) rfl ?_
    refine ow_nil ?_
    refine tw_keep [(5, _), (6, _), (74, _), (75, _)] ⟨rfl, rfl, rfl, rfl, trivial⟩ ?_
    refine tw_lp ?_
    refine tw_seq ?_
    refine tw_region ?_
    refine ow_g (g_lt rfl rfl) rfl ?_
    refine ow_nil ?_
    refine tw_keep [(5, _), (6, _), (74, _), (75, _), (76, _)] ⟨rfl, rfl, rfl, rfl, rfl, trivial⟩ ?_
    refine tw_seq ?_
    refine tw_ifT rfl (by decide) ?_
    refine tw_skip ?_
    refine tw_seq ?_
    refine tw_block ?_
    refine tw_seq ?_
    refine tw_region ?_
    refine ow_g (g_mv rfl) rfl ?_
    refine ow_g (g_as rfl) rfl ?_
    refine ow_nil ?_
    refine tw_keep [(5, _), (6, _), (74, _), (75, _), (7, _)] ⟨rfl, rfl, rfl, rfl, rfl, trivial⟩ ?_
    refine tw_region ?_
    refine ow_g (g_mv rfl) rfl ?_
    refine ow_g (g_mv rfl) rfl ?_
    refine ow_g (g_mv rfl) rfl ?_
    refine ow_g (g_fold (j := 0) (g_quo rfl rfl (by decide)) (by decide)) rfl ?_
    refine ow_g (g_ixa Try.underlying104 ty24 rfl rfl (by decide)) rfl ?_
    refine ow_g (g_ldb sc24 rfl hb17 rfl) rfl ?_
    refine ow_g (g_mv rfl) rfl ?_
    refine ow_g (g_fold (j := 7) (g_rem rfl rfl (by decide)) (by decide)) rfl ?_
    refine ow_g (g_fold (j := 56) (g_mulw rfl rfl) (by decide)) rfl ?_
    refine ow_gx (e' := z32 / 72057594037927936) (lo := 0) (hi := 255) (g_shrp (m := 72057594037927936) rfl rfl (by decide) rfl) (rfl) (In.wk (in_div r28 (by decide)) rfl) rfl (fun z66 h41 r52 => ?_)
    refine ow_gx (e' := z66) (lo := 0) (hi := 255) (g_cv (by rw [Try.underlying24]; rfl) Try.underlying5 rfl) (wrap_fit r52 rfl) (r52) rfl (fun z67 h42 r53 => ?_)
    refine ow_g (g_ix Try.underlying22 ty5 rfl (by first | assumption | exact Own.rd (by assumption) | exact Rd.keep0 (by assumption) hB | exact Own.rd (Own.keep0 (by assumption) hB)) rfl (by omega)) rfl ?_
    refine ow_d0 (d_sto (u := .int .u8 z67) ty5 rfl rfl rfl o8 (blt_lt rfl)) ?_
    rintro _ w32 ⟨o9, k32, z68⟩
    have z_k32 := k32.size
    replace o9 : Own w32 _ 5 1 v1 32 [.int .u8 z46, .int .u8 z49, .int .u8 z52, .int .u8 z55, .int .u8 z58, .int .u8 z61, .int .u8 z64, .int .u8 z67, .int .u8 0, .int .u8 0, .int .u8 0, .int .u8 0, .int .u8 0, .int .u8 0, .int .u8 0, .int .u8 0, .int .u8 0, .int .u8 0, .int .u8 0, .int .u8 0, .int .u8 0, .int .u8 0, .int .u8 0, .int .u8 0, .int .u8 0, .int .u8 0, .int .u8 0, .int .u8 0, .int .u8 0, .int .u8 0, .int .u8 0, .int .u8 0] := o9
    replace hb14 := hb14.keep k32 (fun hm => sb_b2_o1 _ hm rfl)
    replace hb15 := hb15.keep k32 (fun hm => sb_b1_o1 _ hm rfl)
    replace hb17 := hb17.keep k32 (fun hm => sb_b3_o1 _ hm rfl)
    replace hB := hB.new k32 (fun x hx => .inl (go_v1 x hx))
    clear z_k32 z68
    refine ow_nil ?_
    refine tw_keep [(5, _), (6, _), (74, _), (75, _)] ⟨rfl, rfl, rfl, rfl, trivial⟩ ?_
    refine tw_b ?_
    refine tw_region ?_
    refine ow_g (g_fold (j := 8) (g_addw rfl rfl) (by decide)) rfl ?_
    refine ow_g (g_mv rfl) rfl ?_
    refine ow_nil ?_
    refine tw_keep [(5, _), (6, _), (74, _), (75, _)] ⟨rfl, rfl, rfl, rfl, trivial⟩ ?_
    refine tw_lp ?_
    refine tw_seq ?_
    refine tw_region ?_
    refine ow_g (g_lt rfl rfl) rfl ?_
    refine ow_nil ?_
    refine tw_keep [(5, _), (6, _), (74, _), (75, _), (76, _)] ⟨rfl, rfl, rfl, rfl, rfl, trivial⟩ ?_
    refine tw_seq ?_
    refine tw_ifT rfl (by decide) ?_
    refine tw_skip ?_
    refine tw_seq ?_
    refine tw_block ?_
    refine tw_seq ?_
    refine tw_region ?_
    refine ow_g (g_mv rfl) rfl ?_
    refine ow_g (g_as rfl) rfl ?_
    refine ow_nil ?_
    refine tw_keep [(5, _), (6, _), (74, _), (75, _), (7, _)] ⟨rfl, rfl, rfl, rfl, rfl, trivial⟩ ?_
    refine tw_region ?_
    refine ow_g (g_mv rfl) rfl ?_
    refine ow_g (g_mv rfl) rfl ?_
    refine ow_g (g_mv rfl) rfl ?_
    refine ow_g (g_fold (j := 1) (g_quo rfl rfl (by decide)) (by decide)) rfl ?_
    refine ow_g (g_ixa Try.underlying104 ty24 rfl rfl (by decide)) rfl ?_
    refine ow_g (g_ldb sc24 rfl hb17 rfl) rfl ?_
    refine ow_g (g_mv rfl) rfl ?_
    refine ow_g (g_fold (j := 0) (g_rem rfl rfl (by decide)) (by decide)) rfl ?_
    refine ow_g (g_fold (j := 0) (g_mulw rfl rfl) (by decide)) rfl ?_
    refine ow_gx (e' := z35 / 1) (lo := 0) (hi := 18446744073709551615) (g_shrp (m := 1) rfl rfl (by decide) rfl) (rfl) (In.wk (in_div r31 (by decide)) rfl) rfl (fun z69 h43 r54 => ?_)
    refine ow_gx (e' := z69 % 256) (lo := 0) (hi := 255) (g_cv (by rw [Try.underlying24]; rfl) Try.underlying5 rfl) (wrap_uns rfl _) (In.wk (in_mod _ (by decide)) rfl) rfl (fun z70 h44 r55 => ?_)
    refine ow_g (g_ix Try.underlying22 ty5 rfl (by first | assumption | exact Own.rd (by assumption) | exact Rd.keep0 (by assumption) hB | exact Own.rd (Own.keep0 (by assumption) hB)) rfl (by omega)) rfl ?_
    refine ow_d0 (d_sto (u := .int .u8 z70) ty5 rfl rfl rfl o9 (blt_lt rfl)) ?_
    rintro _ w33 ⟨o10, k33, z71⟩
    have z_k33 := k33.size
    replace o10 : Own w33 _ 5 1 v1 32 [.int .u8 z46, .int .u8 z49, .int .u8 z52, .int .u8 z55, .int .u8 z58, .int .u8 z61, .int .u8 z64, .int .u8 z67, .int .u8 z70, .int .u8 0, .int .u8 0, .int .u8 0, .int .u8 0, .int .u8 0, .int .u8 0, .int .u8 0, .int .u8 0, .int .u8 0, .int .u8 0, .int .u8 0, .int .u8 0, .int .u8 0, .int .u8 0, .int .u8 0, .int .u8 0, .int .u8 0, .int .u8 0, .int .u8 0, .int .u8 0, .int .u8 0, .int .u8 0, .int .u8 0] := o10
    replace hb14 := hb14.keep k33 (fun hm => sb_b2_o1 _ hm rfl)
    replace hb15 := hb15.keep k33 (fun hm => sb_b1_o1 _ hm rfl)
    replace hb17 := hb17.keep k33 (fun hm => sb_b3_o1 _ hm rfl)
    replace hB := hB.new k33 (fun x hx => .inl (go_v1 x hx))
    clear z_k33 z71
    refine ow_nil ?_
    refine tw_keep [(5, _), (6, _), (74, _), (75, _)] ⟨rfl, rfl, rfl, rfl, trivial⟩ ?_
    refine tw_b ?_
    refine tw_region ?_
    refine ow_g (g_fold (j := 9) (g_addw rfl rfl) (by decide)) rfl ?_
    refine ow_g (g_mv rfl) rfl ?_
    refine ow_nil ?_
    refine tw_keep [(5, _), (6, _), (74, _), (75, _)] ⟨rfl, rfl, rfl, rfl, trivial⟩ ?_
    refine tw_lp ?_
    refine tw_seq ?_
    refine tw_region ?_
    refine ow_g (g_lt rfl rfl) rfl ?_
    refine ow_nil ?_
    refine tw_keep [(5, _), (6, _), (74, _), (75, _), (76, _)] ⟨rfl, rfl, rfl, rfl, rfl, trivial⟩ ?_
    refine tw_seq ?_
    refine tw_ifT rfl (by decide) ?_
    refine tw_skip ?_
    refine tw_seq ?_
    refine tw_block ?_
    refine tw_seq ?_
    refine tw_region ?_
    refine ow_g (g_mv rfl) rfl ?_
    refine ow_g (g_as rfl) rfl ?_
    refine ow_nil ?_
    refine tw_keep [(5, _), (6, _), (74, _), (75, _), (7, _)] ⟨rfl, rfl, rfl, rfl, rfl, trivial⟩ ?_
    refine tw_region ?_
    refine ow_g (g_mv rfl) rfl ?_
    refine ow_g (g_mv rfl) rfl ?_
    refine ow_g (g_mv rfl) rfl ?_
    refine ow_g (g_fold (j := 1) (g_quo rfl rfl (by decide)) (by decide)) rfl ?_
    refine ow_g (g_ixa Try.underlying104 ty24 rfl rfl (by decide)) rfl ?_
    refine ow_g (g_ldb sc24 rfl hb17 rfl) rfl ?_
    refine ow_g (g_mv rfl) rfl ?_
    refine ow_g (g_fold (j := 1) (g_rem rfl rfl (by decide)) (by decide)) rfl ?_
    refine ow_g (g_fold (j := 8) (g_mulw rfl rfl) (by decide)) rfl ?_
    refine ow_gx (e' := z35 / 256) (lo := 0) (hi := 72057594037927935) (g_shrp (m := 256) rfl rfl (by decide) rfl) (rfl) (In.wk (in_div r31 (by decide)) rfl) rfl (fun z72 h45 r56 => ?_)
    refine ow_gx (e' := z72 % 256) (lo := 0) (hi := 255) (g_cv (by rw [Try.underlying24]; rfl) Try.underlying5 rfl) (wrap_uns rfl _) (In.wk (in_mod _ (by decide)) rfl) rfl (fun z73 h46 r57 => ?_)
    refine ow_g (g_ix Try.underlying22 ty5 rfl (by first | assumption | exact Own.rd (by assumption) | exact Rd.keep0 (by assumption) hB | exact Own.rd (Own.keep0 (by assumption) hB)) rfl (by omega)) rfl ?_
    refine ow_d0 (d_sto (u := .int .u8 z73) ty5 rfl rfl rfl o10 (blt_lt rfl)) ?_
    rintro _ w34 ⟨o11, k34, z74⟩
    have z_k34 := k34.size
    replace o11 : Own w34 _ 5 1 v1 32 [.int .u8 z46, .int .u8 z49, .int .u8 z52, .int .u8 z55, .int .u8 z58, .int .u8 z61, .int .u8 z64, .int .u8 z67, .int .u8 z70, .int .u8 z73, .int .u8 0, .int .u8 0, .int .u8 0, .int .u8 0, .int .u8 0, .int .u8 0, .int .u8 0, .int .u8 0, .int .u8 0, .int .u8 0, .int .u8 0, .int .u8 0, .int .u8 0, .int .u8 0, .int .u8 0, .int .u8 0, .int .u8 0, .int .u8 0, .int .u8 0, .int .u8 0, .int .u8 0, .int .u8 0] := o11
    replace hb14 := hb14.keep k34 (fun hm => sb_b2_o1 _ hm rfl)
    replace hb15 := hb15.keep k34 (fun hm => sb_b1_o1 _ hm rfl)
    replace hb17 := hb17.keep k34 (fun hm => sb_b3_o1 _ hm rfl)
    replace hB := hB.new k34 (fun x hx => .inl (go_v1 x hx))
    clear z_k34 z74
    refine ow_nil ?_
    refine tw_keep [(5, _), (6, _), (74, _), (75, _)] ⟨rfl, rfl, rfl, rfl, trivial⟩ ?_
    refine tw_b ?_
    refine tw_region ?_
    refine ow_g (g_fold (j := 10) (g_addw rfl rfl) (by decide)) rfl ?_
    refine ow_g (g_mv rfl) rfl ?_
    refine ow_nil ?_
    refine tw_keep [(5, _), (6, _), (74, _), (75, _)] ⟨rfl, rfl, rfl, rfl, trivial⟩ ?_
    refine tw_lp ?_
    refine tw_seq ?_
    refine tw_region ?_
    refine ow_g (g_lt rfl rfl) rfl ?_
    refine ow_nil ?_
    refine tw_keep [(5, _), (6, _), (74, _), (75, _), (76, _)] ⟨rfl, rfl, rfl, rfl, rfl, trivial⟩ ?_
    refine tw_seq ?_
    refine tw_ifT rfl (by decide) ?_
    refine tw_skip ?_
    refine tw_seq ?_
    refine tw_block ?_
    refine tw_seq ?_
    refine tw_region ?_
    refine ow_g (g_mv rfl) rfl ?_
    refine ow_g (g_as rfl) rfl ?_
    refine ow_nil ?_
    refine tw_keep [(5, _), (6, _), (74, _), (75, _), (7, _)] ⟨rfl, rfl, rfl, rfl, rfl, trivial⟩ ?_
    refine tw_region ?_
    refine ow_g (g_mv rfl) rfl ?_
    refine ow_g (g_mv rfl) rfl ?_
    refine ow_g (g_mv rfl) rfl ?_
    refine ow_g (g_fold (j := 1) (g_quo rfl rfl (by decide)) (by decide)) rfl ?_
    refine ow_g (g_ixa Try.underlying104 ty24 rfl rfl (by decide)) rfl ?_
    refine ow_g (g_ldb sc24 rfl hb17 rfl) rfl ?_
    refine ow_g (g_mv rfl) rfl ?_
    refine ow_g (g_fold (j := 2) (g_rem rfl rfl (by decide)) (by decide)) rfl ?_
    refine ow_g (g_fold (j := 16) (g_mulw rfl rfl) (by decide)) rfl ?_
    refine ow_gx (e' := z35 / 65536) (lo := 0) (hi := 281474976710655) (g_shrp (m := 65536) rfl rfl (by decide) rfl) (rfl) (In.wk (in_div r31 (by decide)) rfl) rfl (fun z75 h47 r58 => ?_)
    refine ow_gx (e' := z75 % 256) (lo := 0) (hi := 255) (g_cv (by rw [Try.underlying24]; rfl) Try.underlying5 rfl) (wrap_uns rfl _) (In.wk (in_mod _ (by decide)) rfl) rfl (fun z76 h48 r59 => ?_)
    refine ow_g (g_ix Try.underlying22 ty5 rfl (by first | assumption | exact Own.rd (by assumption) | exact Rd.keep0 (by assumption) hB | exact Own.rd (Own.keep0 (by assumption) hB)) rfl (by omega)) rfl ?_
    refine ow_d0 (d_sto (u := .int .u8 z76) ty5 rfl rfl rfl o11 (blt_lt rfl)) ?_
    rintro _ w35 ⟨o12, k35, z77⟩
    have z_k35 := k35.size
    replace o12 : Own w35 _ 5 1 v1 32 [.int .u8 z46, .int .u8 z49, .int .u8 z52, .int .u8 z55, .int .u8 z58, .int .u8 z61, .int .u8 z64, .int .u8 z67, .int .u8 z70, .int .u8 z73, .int .u8 z76, .int .u8 0, .int .u8 0, .int .u8 0, .int .u8 0, .int .u8 0, .int .u8 0, .int .u8 0, .int .u8 0, .int .u8 0, .int .u8 0, .int .u8 0, .int .u8 0, .int .u8 0, .int .u8 0, .int .u8 0, .int .u8 0, .int .u8 0, .int .u8 0, .int .u8 0, .int .u8 0, .int .u8 0] := o12
    replace hb14 := hb14.keep k35 (fun hm => sb_b2_o1 _ hm rfl)
    replace hb15 := hb15.keep k35 (fun hm => sb_b1_o1 _ hm rfl)
    replace hb17 := hb17.keep k35 (fun hm => sb_b3_o1 _ hm rfl)
    replace hB := hB.new k35 (fun x hx => .inl (go_v1 x hx))
    clear z_k35 z77
    refine ow_nil ?_
    refine tw_keep [(5, _), (6, _), (74, _), (75, _)] ⟨rfl, rfl, rfl, rfl, trivial⟩ ?_
    refine tw_b ?_
    refine tw_region ?_
    refine ow_g (g_fold (j := 11) (g_addw rfl rfl) (by decide)) rfl ?_
    refine ow_g (g_mv rfl) rfl ?_
    refine ow_nil ?_
    refine tw_keep [(5, _), (6, _), (74, _), (75, _)] ⟨rfl, rfl, rfl, rfl, trivial⟩ ?_
    refine tw_lp ?_
    refine tw_seq ?_
    refine tw_region ?_
    refine ow_g (g_lt rfl rfl) rfl ?_
    refine ow_nil ?_
    refine tw_keep [(5, _), (6, _), (74, _), (75, _), (76, _)] ⟨rfl, rfl, rfl, rfl, rfl, trivial⟩ ?_
    refine tw_seq ?_
    refine tw_ifT rfl (by decide) ?_
    refine tw_skip ?_
    refine tw_seq ?_
    refine tw_block ?_
    refine tw_seq ?_
    refine tw_region ?_
    refine ow_g (g_mv rfl) rfl ?_
    refine ow_g (g_as rfl) rfl ?_
    refine ow_nil ?_
    refine tw_keep [(5, _), (6, _), (74, _), (75, _), (7, _)] ⟨rfl, rfl, rfl, rfl, rfl, trivial⟩ ?_
    refine tw_region ?_
    refine ow_g (g_mv rfl) rfl ?_
    refine ow_g (g_mv rfl) rfl ?_
    refine ow_g (g_mv rfl) rfl ?_
    refine ow_g (g_fold (j := 1) (g_quo rfl rfl (by decide)) (by decide)) rfl ?_
    refine ow_g (g_ixa Try.underlying104 ty24 rfl rfl (by decide)) rfl ?_
    refine ow_g (g_ldb sc24 rfl hb17 rfl) rfl ?_
    refine ow_g (g_mv rfl) rfl ?_
    refine ow_g (g_fold (j := 3) (g_rem rfl rfl (by decide)) (by decide)) rfl ?_
    refine ow_g (g_fold (j := 24) (g_mulw rfl rfl) (by decide)) rfl ?_
    refine ow_gx (e' := z35 / 16777216) (lo := 0) (hi := 1099511627775) (g_shrp (m := 16777216) rfl rfl (by decide) rfl) (rfl) (In.wk (in_div r31 (by decide)) rfl) rfl (fun z78 h49 r60 => ?_)
    refine ow_gx (e' := z78 % 256) (lo := 0) (hi := 255) (g_cv (by rw [Try.underlying24]; rfl) Try.underlying5 rfl) (wrap_uns rfl _) (In.wk (in_mod _ (by decide)) rfl) rfl (fun z79 h50 r61 => ?_)
    refine ow_g (g_ix Try.underlying22 ty5 rfl (by first | assumption | exact Own.rd (by assumption) | exact Rd.keep0 (by assumption) hB | exact Own.rd (Own.keep0 (by assumption) hB)) rfl (by omega)) rfl ?_
    refine ow_d0 (d_sto (u := .int .u8 z79) ty5 rfl rfl rfl o12 (blt_lt rfl)) ?_
    rintro _ w36 ⟨o13, k36, z80⟩
    have z_k36 := k36.size
    replace o13 : Own w36 _ 5 1 v1 32 [.int .u8 z46, .int .u8 z49, .int .u8 z52, .int .u8 z55, .int .u8 z58, .int .u8 z61, .int .u8 z64, .int .u8 z67, .int .u8 z70, .int .u8 z73, .int .u8 z76, .int .u8 z79, .int .u8 0, .int .u8 0, .int .u8 0, .int .u8 0, .int .u8 0, .int .u8 0, .int .u8 0, .int .u8 0, .int .u8 0, .int .u8 0, .int .u8 0, .int .u8 0, .int .u8 0, .int .u8 0, .int .u8 0, .int .u8 0, .int .u8 0, .int .u8 0, .int .u8 0, .int .u8 0] := o13
    replace hb14 := hb14.keep k36 (fun hm => sb_b2_o1 _ hm rfl)
    replace hb15 := hb15.keep k36 (fun hm => sb_b1_o1 _ hm rfl)
    replace hb17 := hb17.keep k36 (fun hm => sb_b3_o1 _ hm rfl)
    replace hB := hB.new k36 (fun x hx => .inl (go_v1 x hx))
    clear z_k36 z80
    refine ow_nil ?_
    refine tw_keep [(5, _), (6, _), (74, _), (75, _)] ⟨rfl, rfl, rfl, rfl, trivial⟩ ?_
    refine tw_b ?_
    refine tw_region ?_
    refine ow_g (g_fold (j := 12) (g_addw rfl rfl) (by decide)) rfl ?_
    refine ow_g (g_mv rfl) rfl ?_
    refine ow_nil ?_
    refine tw_keep [(5, _), (6, _), (74, _), (75, _)] ⟨rfl, rfl, rfl, rfl, trivial⟩ ?_
    refine tw_lp ?_
    refine tw_seq ?_
    refine tw_region ?_
    refine ow_g (g_lt rfl rfl) rfl ?_
    refine ow_nil ?_
    refine tw_keep [(5, _), (6, _), (74, _), (75, _), (76, _)] ⟨rfl, rfl, rfl, rfl, rfl, trivial⟩ ?_
    refine tw_seq ?_
    refine tw_ifT rfl (by decide) ?_
    refine tw_skip ?_
    refine tw_seq ?_
    refine tw_block ?_
    refine tw_seq ?_
    refine tw_region ?_
    refine ow_g (g_mv rfl) rfl ?_
    refine ow_g (g_as rfl) rfl ?_
    refine ow_nil ?_
    refine tw_keep [(5, _), (6, _), (74, _), (75, _), (7, _)] ⟨rfl, rfl, rfl, rfl, rfl, trivial⟩ ?_
    refine tw_region ?_
    refine ow_g (g_mv rfl) rfl ?_
    refine ow_g (g_mv rfl) rfl ?_
    refine ow_g (g_mv rfl) rfl ?_
    refine ow_g (g_fold (j := 1) (g_quo rfl rfl (by decide)) (by decide)) rfl ?_
    refine ow_g (g_ixa Try.underlying104 ty24 rfl rfl (by decide)) rfl ?_
    refine ow_g (g_ldb sc24 rfl hb17 rfl) rfl ?_
    refine ow_g (g_mv rfl) rfl ?_
    refine ow_g (g_fold (j := 4) (g_rem rfl rfl (by decide)) (by decide)) rfl ?_
    refine ow_g (g_fold (j := 32) (g_mulw rfl rfl) (by decide)) rfl ?_
    refine ow_gx (e' := z35 / 4294967296) (lo := 0) (hi := 4294967295) (g_shrp (m := 4294967296) rfl rfl (by decide) rfl) (rfl) (In.wk (in_div r31 (by decide)) rfl) rfl (fun z81 h51 r62 => ?_)
    refine ow_gx (e' := z81 % 256) (lo := 0) (hi := 255) (g_cv (by rw [Try.underlying24]; rfl) Try.underlying5 rfl) (wrap_uns rfl _) (In.wk (in_mod _ (by decide)) rfl) rfl (fun z82 h52 r63 => ?_)
    refine ow_g (g_ix Try.underlying22 ty5 rfl (by first | assumption | exact Own.rd (by assumption) | exact Rd.keep0 (by assumption) hB | exact Own.rd (Own.keep0 (by assumption) hB)) rfl (by omega)) rfl ?_
    refine ow_d0 (d_sto (u := .int .u8 z82) ty5 rfl rfl rfl o13 (blt_lt rfl)) ?_
    rintro _ w37 ⟨o14, k37, z83⟩
    have z_k37 := k37.size
    replace o14 : Own w37 _ 5 1 v1 32 [.int .u8 z46, .int .u8 z49, .int .u8 z52, .int .u8 z55, .int .u8 z58, .int .u8 z61, .int .u8 z64, .int .u8 z67, .int .u8 z70, .int .u8 z73, .int .u8 z76, .int .u8 z79, .int .u8 z82, .int .u8 0, .int .u8 0, .int .u8 0, .int .u8 0, .int .u8 0, .int .u8 0, .int .u8 0, .int .u8 0, .int .u8 0, .int .u8 0, .int .u8 0, .int .u8 0, .int .u8 0, .int .u8 0, .int .u8 0, .int .u8 0, .int .u8 0, .int .u8 0, .int .u8 0] := o14
    replace hb14 := hb14.keep k37 (fun hm => sb_b2_o1 _ hm rfl)
    replace hb15 := hb15.keep k37 (fun hm => sb_b1_o1 _ hm rfl)
    replace hb17 := hb17.keep k37 (fun hm => sb_b3_o1 _ hm rfl)
    replace hB := hB.new k37 (fun x hx => .inl (go_v1 x hx))
    clear z_k37 z83
    refine ow_nil ?_
    refine tw_keep [(5, _), (6, _), (74, _), (75, _)] ⟨rfl, rfl, rfl, rfl, trivial⟩ ?_
    refine tw_b ?_
    refine tw_region ?_
    refine ow_g (g_fold (j := 13) (g_addw rfl rfl) (by decide)) rfl ?_
    refine ow_g (g_mv rfl) rfl ?_
    refine ow_nil ?_
    refine tw_keep [(5, _), (6, _), (74, _), (75, _)] ⟨rfl, rfl, rfl, rfl, trivial⟩ ?_
    refine tw_lp ?_
    refine tw_seq ?_
    refine tw_region ?_
    refine ow_g (g_lt rfl rfl) rfl ?_
    refine ow_nil ?_
    refine tw_keep [(5, _), (6, _), (74, _), (75, _), (76, _)] ⟨rfl, rfl, rfl, rfl, rfl, trivial⟩ ?_
    refine tw_seq ?_
    refine tw_ifT rfl (by decide) ?_
    refine tw_skip ?_
    refine tw_seq ?_
    refine tw_block ?_
    refine tw_seq ?_
    refine tw_region ?_
    refine ow_g (g_mv rfl) rfl ?_
    refine ow_g (g_as rfl) rfl ?_
    refine ow_nil ?_
    refine tw_keep [(5, _), (6, _), (74, _), (75, _), (7, _)] ⟨rfl, rfl, rfl, rfl, rfl, trivial⟩ ?_
    refine tw_region ?_
    refine ow_g (g_mv rfl) rfl ?_
    refine ow_g (g_mv rfl) rfl ?_
    refine ow_g (g_mv rfl) rfl ?_
    refine ow_g (g_fold (j := 1) (g_quo rfl rfl (by decide)) (by decide)) rfl ?_
    refine ow_g (g_ixa Try.underlying104 ty24 rfl rfl (by decide)) rfl ?_
    refine ow_g (g_ldb sc24 rfl hb17 rfl) rfl ?_
    refine ow_g (g_mv rfl) rfl ?_
    refine ow_g (g_fold (j := 5) (g_rem rfl rfl (by decide)) (by decide)) rfl ?_
    refine ow_g (g_fold (j := 40) (g_mulw rfl rfl) (by decide)) rfl ?_
    refine ow_gx (e' := z35 / 1099511627776) (lo := 0) (hi := 16777215) (g_shrp (m := 1099511627776) rfl rfl (by decide) rfl) (rfl) (In.wk (in_div r31 (by decide)) rfl) rfl (fun z84 h53 r64 => ?_)
    refine ow_gx (e' := z84 % 256) (lo := 0) (hi := 255) (g_cv (by rw [Try.underlying24]; rfl) Try.underlying5 rfl) (wrap_uns rfl _) (In.wk (in_mod _ (by decide)) rfl) rfl (fun z85 h54 r65 => ?_)
    refine ow_g (g_ix Try.underlying22 ty5 rfl (by first | assumption | exact Own.rd (by assumption) | exact Rd.keep0 (by assumption) hB | exact Own.rd (Own.keep0 (by assumption) hB)) rfl (by omega)) rfl ?_
    refine ow_d0 (d_sto (u := .int .u8 z85) ty5 rfl rfl rfl o14 (blt_lt rfl)) ?_
    rintro _ w38 ⟨o15, k38, z86⟩
    have z_k38 := k38.size
    replace o15 : Own w38 _ 5 1 v1 32 [.int .u8 z46, .int .u8 z49, .int .u8 z52, .int .u8 z55, .int .u8 z58, .int .u8 z61, .int .u8 z64, .int .u8 z67, .int .u8 z70, .int .u8 z73, .int .u8 z76, .int .u8 z79, .int .u8 z82, .int .u8 z85, .int .u8 0, .int .u8 0, .int .u8 0, .int .u8 0, .int .u8 0, .int .u8 0, .int .u8 0, .int .u8 0, .int .u8 0, .int .u8 0, .int .u8 0, .int .u8 0, .int .u8 0, .int .u8 0, .int .u8 0, .int .u8 0, .int .u8 0, .int .u8 0] := o15
    replace hb14 := hb14.keep k38 (fun hm => sb_b2_o1 _ hm rfl)
    replace hb15 := hb15.keep k38 (fun hm => sb_b1_o1 _ hm rfl)
    replace hb17 := hb17.keep k38 (fun hm => sb_b3_o1 _ hm rfl)
    replace hB := hB.new k38 (fun x hx => .inl (go_v1 x hx))
    clear z_k38 z86
    refine ow_nil ?_
    refine tw_keep [(5, _), (6, _), (74, _), (75, _)] ⟨rfl, rfl, rfl, rfl, trivial⟩ ?_
    refine tw_b ?_
    refine tw_region ?_
    refine ow_g (g_fold (j := 14) (g_addw rfl rfl) (by decide)) rfl ?_
    refine ow_g (g_mv rfl) rfl ?_
    refine ow_nil ?_
    refine tw_keep [(5, _), (6, _), (74, _), (75, _)] ⟨rfl, rfl, rfl, rfl, trivial⟩ ?_
    refine tw_lp ?_
    refine tw_seq ?_
    refine tw_region ?_
    refine ow_g (g_lt rfl rfl) rfl ?_
    refine ow_nil ?_
    refine tw_keep [(5, _), (6, _), (74, _), (75, _), (76, _)] ⟨rfl, rfl, rfl, rfl, rfl, trivial⟩ ?_
    refine tw_seq ?_
    refine tw_ifT rfl (by decide) ?_
    refine tw_skip ?_
    refine tw_seq ?_
    refine tw_block ?_
    refine tw_seq ?_
    refine tw_region ?_
    refine ow_g (g_mv rfl) rfl ?_
    refine ow_g (g_as rfl) rfl ?_
    refine ow_nil ?_
    refine tw_keep [(5, _), (6, _), (74, _), (75, _), (7, _)] ⟨rfl, rfl, rfl, rfl, rfl, trivial⟩ ?_
    refine tw_region ?_
    refine ow_g (g_mv rfl) rfl ?_
    refine ow_g (g_mv rfl) rfl ?_
    refine ow_g (g_mv rfl) rfl ?_
    refine ow_g (g_fold (j := 1) (g_quo rfl rfl (by decide)) (by decide)) rfl ?_
    refine ow_g (g_ixa Try.underlying104 ty24 rfl rfl (by decide)) rfl ?_
    refine ow_g (g_ldb sc24 rfl hb17 rfl) rfl ?_
    refine ow_g (g_mv rfl) rfl ?_
    refine ow_g (g_fold (j := 6) (g_rem rfl rfl (by decide)) (by decide)) rfl ?_
    refine ow_g (g_fold (j := 48) (g_mulw rfl rfl) (by decide)) rfl ?_
    refine ow_gx (e' := z35 / 281474976710656) (lo := 0) (hi := 65535) (g_shrp (m := 281474976710656) rfl rfl (by decide) rfl) (rfl) (In.wk (in_div r31 (by decide)) rfl) rfl (fun z87 h55 r66 => ?_)
    refine ow_gx (e' := z87 % 256) (lo := 0) (hi := 255) (g_cv (by rw [Try.underlying24]; rfl) Try.underlying5 rfl) (wrap_uns rfl _) (In.wk (in_mod _ (by decide)) rfl) rfl (fun z88 h56 r67 => ?_)
    refine ow_g (g_ix Try.underlying22 ty5 rfl (by first | assumption | exact Own.rd (by assumption) | exact Rd.keep0 (by assumption) hB | exact Own.rd (Own.keep0 (by assumption) hB)) rfl (by omega)) rfl ?_
    refine ow_d0 (d_sto (u := .int .u8 z88) ty5 rfl rfl rfl o15 (blt_lt rfl)) ?_
    rintro _ w39 ⟨o16, k39, z89⟩
    have z_k39 := k39.size
    replace o16 : Own w39 _ 5 1 v1 32 [.int .u8 z46, .int .u8 z49, .int .u8 z52, .int .u8 z55, .int .u8 z58, .int .u8 z61, .int .u8 z64, .int .u8 z67, .int .u8 z70, .int .u8 z73, .int .u8 z76, .int .u8 z79, .int .u8 z82, .int .u8 z85, .int .u8 z88, .int .u8 0, .int .u8 0, .int .u8 0, .int .u8 0, .int .u8 0, .int .u8 0, .int .u8 0, .int .u8 0, .int .u8 0, .int .u8 0, .int .u8 0, .int .u8 0, .int .u8 0, .int .u8 0, .int .u8 0, .int .u8 0, .int .u8 0] := o16
    replace hb14 := hb14.keep k39 (fun hm => sb_b2_o1 _ hm rfl)
    replace hb15 := hb15.keep k39 (fun hm => sb_b1_o1 _ hm rfl)
    replace hb17 := hb17.keep k39 (fun hm => sb_b3_o1 _ hm rfl)
    replace hB := hB.new k39 (fun x hx => .inl (go_v1 x hx))
    clear z_k39 z89
    refine ow_nil ?_
    refine tw_keep [(5, _), (6, _), (74, _), (75, _)] ⟨rfl, rfl, rfl, rfl, trivial⟩ ?_
    refine tw_b ?_
    refine tw_region ?_
    refine ow_g (g_fold (j := 15) (g_addw rfl rfl) (by decide)) rfl ?_
    refine ow_g (g_mv rfl) rfl ?_
    refine ow_nil ?_
    refine tw_keep [(5, _), (6, _), (74, _), (75, _)] ⟨rfl, rfl, rfl, rfl, trivial⟩ ?_
    refine tw_lp ?_
    refine tw_seq ?_
    refine tw_region ?_
    refine ow_g (g_lt rfl rfl) rfl ?_
    refine ow_nil ?_
    refine tw_keep [(5, _), (6, _), (74, _), (75, _), (76, _)] ⟨rfl, rfl, rfl, rfl, rfl, trivial⟩ ?_
    refine tw_seq ?_
    refine tw_ifT rfl (by decide) ?_
    refine tw_skip ?_
    refine tw_seq ?_
    refine tw_block ?_
    refine tw_seq ?_
    refine tw_region ?_
    refine ow_g (g_mv rfl) rfl ?_
    refine ow_g (g_as rfl) rfl ?_
    refine ow_nil ?_
    refine tw_keep [(5, _), (6, _), (74, _), (75, _), (7, _)] ⟨rfl, rfl, rfl, rfl, rfl, trivial⟩ ?_
    refine tw_region ?_
    refine ow_g (g_mv rfl) rfl ?_
    refine ow_g (g_mv rfl) rfl ?_
    refine ow_g (g_mv rfl) rfl ?_
    refine ow_g (g_fold (j := 1) (g_quo rfl rfl (by decide)) (by decide)) rfl ?_
    refine ow_g (g_ixa Try.underlying104 ty24 rfl rfl (by decide)) rfl ?_
    refine ow_g (g_ldb sc24 rfl hb17 rfl) rfl ?_
    refine ow_g (g_mv rfl) rfl ?_
    refine ow_g (g_fold (j := 7) (g_rem rfl rfl (by decide)) (by decide)) rfl ?_
    refine ow_g (g_fold (j := 56) (g_mulw rfl rfl) (by decide)) rfl ?_
    refine ow_gx (e' := z35 / 72057594037927936) (lo := 0) (hi := 255) (g_shrp (m := 72057594037927936) rfl rfl (by decide) rfl) (rfl) (In.wk (in_div r31 (by decide)) rfl) rfl (fun z90 h57 r68 => ?_)
    refine ow_gx (e' := z90) (lo := 0) (hi := 255) (g_cv (by rw [Try.underlying24]; rfl) Try.underlying5 rfl) (wrap_fit r68 rfl) (r68) rfl (fun z91 h58 r69 => ?_)
    refine ow_g (g_ix Try.underlying22 ty5 rfl (by first | assumption | exact Own.rd (by assumption) | exact Rd.keep0 (by assumption) hB | exact Own.rd (Own.keep0 (by assumption) hB)) rfl (by omega)) rfl ?_
    refine ow_d0 (d_sto (u := .int .u8 z91) ty5 rfl rfl rfl o16 (blt_lt rfl)) ?_
    rintro _ w40 ⟨o17, k40, z92⟩
    have z_k40 := k40.size
    replace o17 : Own w40 _ 5 1 v1 32 [.int .u8 z46, .int .u8 z49, .int .u8 z52, .int .u8 z55, .int .u8 z58, .int .u8 z61, .int .u8 z64, .int .u8 z67, .int .u8 z70, .int .u8 z73, .int .u8 z76, .int .u8 z79, .int .u8 z82, .int .u8 z85, .int .u8 z88, .int .u8 z91, .int .u8 0, .int .u8 0, .int .u8 0, .int .u8 0, .int .u8 0, .int .u8 0, .int .u8 0, .int .u8 0, .int .u8 0, .int .u8 0, .int .u8 0, .int .u8 0, .int .u8 0, .int .u8 0, .int .u8 0, .int .u8 0] := o17
    replace hb14 := hb14.keep k40 (fun hm => sb_b2_o1 _ hm rfl)
    replace hb15 := hb15.keep k40 (fun hm => sb_b1_o1 _ hm rfl)
    replace hb17 := hb17.keep k40 (fun hm => sb_b3_o1 _ hm rfl)
    replace hB := hB.new k40 (fun x hx => .inl (go_v1 x hx))
    clear z_k40 z92
    refine ow_nil ?_
    refine tw_keep [(5, _), (6, _), (74, _), (75, _)] ⟨rfl, rfl, rfl, rfl, trivial⟩ ?_
    refine tw_b ?_
    refine tw_region ?_
    refine ow_g (g_fold (j := 16) (g_addw rfl rfl) (by decide)) rfl ?_
    refine ow_g (g_mv rfl) rfl ?_
    refine ow_nil ?_
    refine tw_keep [(5, _), (6, _), (74, _), (75, _)] ⟨rfl, rfl, rfl, rfl, trivial⟩ ?_
    refine tw_lp ?_
    refine tw_seq ?_
    refine tw_region ?_
    refine ow_g (g_lt rfl rfl) rfl ?_
    refine ow_nil ?_
    refine tw_keep [(5, _), (6, _), (74, _), (75, _), (76, _)] ⟨rfl, rfl, rfl, rfl, rfl, trivial⟩ ?_
    refine tw_seq ?_
    refine tw_ifT rfl (by decide) ?_
    refine tw_skip ?_
    refine tw_seq ?_
    refine tw_block ?_
    refine tw_seq ?_
    refine tw_region ?_
    refine ow_g (g_mv rfl) rfl ?_
    refine ow_g (g_as rfl) rfl ?_
    refine ow_nil ?_
    refine tw_keep [(5, _), (6, _), (74, _), (75, _), (7, _)] ⟨rfl, rfl, rfl, rfl, rfl, trivial⟩ ?_
    refine tw_region ?_
    refine ow_g (g_mv rfl) rfl ?_
    refine ow_g (g_mv rfl) rfl ?_
    refine ow_g (g_mv rfl) rfl ?_
    refine ow_g (g_fold (j := 2) (g_quo rfl rfl (by decide)) (by decide)) rfl ?_
    refine ow_g (g_ixa Try.underlying104 ty24 rfl rfl (by decide)) rfl ?_
    refine ow_g (g_ldb sc24 rfl hb17 rfl) rfl ?_
    refine ow_g (g_mv rfl) rfl ?_
    refine ow_g (g_fold (j := 0) (g_rem rfl rfl (by decide)) (by decide)) rfl ?_
    refine ow_g (g_fold (j := 0) (g_mulw rfl rfl) (by decide)) rfl ?_
    refine ow_gx (e' := z38 / 1) (lo := 0) (hi := 18446744073709551615) (g_shrp (m := 1) rfl rfl (by decide) rfl) (rfl) (In.wk (in_div r34 (by decide)) rfl) rfl (fun z93 h59 r70 => ?_)
    refine ow_gx (e' := z93 % 256) (lo := 0) (hi := 255) (g_cv (by rw [Try.underlying24]; rfl) Try.underlying5 rfl) (wrap_uns rfl _) (In.wk (in_mod _ (by decide)) rfl) rfl (fun z94 h60 r71 => ?_)
    refine ow_g (g_ix Try.underlying22 ty5 rfl (by first | assumption | exact Own.rd (by assumption) | exact Rd.keep0 (by assumption) hB | exact Own.rd (Own.keep0 (by assumption) hB)) rfl (by omega)) rfl ?_
    refine ow_d0 (d_sto (u := .int .u8 z94) ty5 rfl rfl rfl o17 (blt_lt rfl)) ?_
    rintro _ w41 ⟨o18, k41, z95⟩
    have z_k41 := k41.size
    replace o18 : Own w41 _ 5 1 v1 32 [.int .u8 z46, .int .u8 z49, .int .u8 z52, .int .u8 z55, .int .u8 z58, .int .u8 z61, .int .u8 z64, .int .u8 z67, .int .u8 z70, .int .u8 z73, .int .u8 z76, .int .u8 z79, .int .u8 z82, .int .u8 z85, .int .u8 z88, .int .u8 z91, .int .u8 z94, .int .u8 0, .int .u8 0, .int .u8 0, .int .u8 0, .int .u8 0, .int .u8 0, .int .u8 0, .int .u8 0, .int .u8 0, .int .u8 0, .int .u8 0, .int .u8 0, .int .u8 0, .int .u8 0, .int .u8 0] := o18
    replace hb14 := hb14.keep k41 (fun hm => sb_b2_o1 _ hm rfl)
    replace hb15 := hb15.keep k41 (fun hm => sb_b1_o1 _ hm rfl)
    replace hb17 := hb17.keep k41 (fun hm => sb_b3_o1 _ hm rfl)
    replace hB := hB.new k41 (fun x hx => .inl (go_v1 x hx))
    clear z_k41 z95
    refine ow_nil ?_
    refine tw_keep [(5, _), (6, _), (74, _), (75, _)] ⟨rfl, rfl, rfl, rfl, trivial⟩ ?_
    refine tw_b ?_
    refine tw_region ?_
    refine ow_g (g_fold (j := 17) (g_addw rfl rfl) (by decide)) rfl ?_
    refine ow_g (g_mv rfl) rfl ?_
    refine ow_nil ?_
    refine tw_keep [(5, _), (6, _), (74, _), (75, _)] ⟨rfl, rfl, rfl, rfl, trivial⟩ ?_
    refine tw_lp ?_
    refine tw_seq ?_
    refine tw_region ?_
    refine ow_g (g_lt rfl rfl) rfl ?_
    refine ow_nil ?_
    refine tw_keep [(5, _), (6, _), (74, _), (75, _), (76, _)] ⟨rfl, rfl, rfl, rfl, rfl, trivial⟩ ?_
    refine tw_seq ?_
    refine tw_ifT rfl (by decide) ?_
    refine tw_skip ?_
    refine tw_seq ?_
    refine tw_block ?_
    refine tw_seq ?_
    refine tw_region ?_
    refine ow_g (g_mv rfl) rfl ?_
    refine ow_g (g_as rfl) rfl ?_
    refine ow_nil ?_
    refine tw_keep [(5, _), (6, _), (74, _), (75, _), (7, _)] ⟨rfl, rfl, rfl, rfl, rfl, trivial⟩ ?_
    refine tw_region ?_
    refine ow_g (g_mv rfl) rfl ?_
    refine ow_g (g_mv rfl) rfl ?_
    refine ow_g (g_mv rfl) rfl ?_
    refine ow_g (g_fold (j := 2) (g_quo rfl rfl (by decide)) (by decide)) rfl ?_
    refine ow_g (g_ixa Try.underlying104 ty24 rfl rfl (by decide)) rfl ?_
    refine ow_g (g_ldb sc24 rfl hb17 rfl) rfl ?_
    refine ow_g (g_mv rfl) rfl ?_
    refine ow_g (g_fold (j := 1) (g_rem rfl rfl (by decide)) (by decide)) rfl ?_
    refine ow_g (g_fold (j := 8) (g_mulw rfl rfl) (by decide)) rfl ?_
    refine ow_gx (e' := z38 / 256) (lo := 0) (hi := 72057594037927935) (g_shrp (m := 256) rfl rfl (by decide) rfl) (rfl) (In.wk (in_div r34 (by decide)) rfl) rfl (fun z96 h61 r72 => ?_)
    refine ow_gx (e' := z96 % 256) (lo := 0) (hi := 255) (g_cv (by rw [Try.underlying24]; rfl) Try.underlying5 rfl) (wrap_uns rfl _) (In.wk (in_mod _ (by decide)) rfl) rfl (fun z97 h62 r73 => ?_)
    refine ow_g (g_ix Try.underlying22 ty5 rfl (by first | assumption | exact Own.rd (by assumption) | exact Rd.keep0 (by assumption) hB | exact Own.rd (Own.keep0 (by assumption) hB)) rfl (by omega)) rfl ?_
    refine ow_d0 (d_sto (u := .int .u8 z97) ty5 rfl rfl rfl o18 (blt_lt rfl)) ?_
    rintro _ w42 ⟨o19, k42, z98⟩
    have z_k42 := k42.size
    replace o19 : Own w42 _ 5 1 v1 32 [.int .u8 z46, .int .u8 z49, .int .u8 z52, .int .u8 z55, .int .u8 z58, .int .u8 z61, .int .u8 z64, .int .u8 z67, .int .u8 z70, .int .u8 z73, .int .u8 z76, .int .u8 z79, .int .u8 z82, .int .u8 z85, .int .u8 z88, .int .u8 z91, .int .u8 z94, .int .u8 z97, .int .u8 0, .int .u8 0, .int .u8 0, .int .u8 0, .int .u8 0, .int .u8 0, .int .u8 0, .int .u8 0, .int .u8 0, .int .u8 0, .int .u8 0, .int .u8 0, .int .u8 0, .int .u8 0] := o19
    replace hb14 := hb14.keep k42 (fun hm => sb_b2_o1 _ hm rfl)
    replace hb15 := hb15.keep k42 (fun hm => sb_b1_o1 _ hm rfl)
    replace hb17 := hb17.keep k42 (fun hm => sb_b3_o1 _ hm rfl)
    replace hB := hB.new k42 (fun x hx => .inl (go_v1 x hx))
    clear z_k42 z98
    refine ow_nil ?_
    refine tw_keep [(5, _), (6, _), (74, _), (75, _)] ⟨rfl, rfl, rfl, rfl, trivial⟩ ?_
    refine tw_b ?_
    refine tw_region ?_
    refine ow_g (g_fold (j := 18) (g_addw rfl rfl) (by decide)) rfl ?_
    refine ow_g (g_mv rfl) rfl ?_
    refine ow_nil ?_
    refine tw_keep [(5, _), (6, _), (74, _), (75, _)] ⟨rfl, rfl, rfl, rfl, trivial⟩ ?_
    refine tw_lp ?_
    refine tw_seq ?_
    refine tw_region ?_
    refine ow_g (g_lt rfl rfl) rfl ?_
    refine ow_nil ?_
    refine tw_keep [(5, _), (6, _), (74, _), (75, _), (76, _)] ⟨rfl, rfl, rfl, rfl, rfl, trivial⟩ ?_
    refine tw_seq ?_
    refine tw_ifT rfl (by decide) ?_
    refine tw_skip ?_
    refine tw_seq ?_
    refine tw_block ?_
    refine tw_seq ?_
    refine tw_region ?_
    refine ow_g (g_mv rfl) rfl ?_
    refine ow_g (g_as rfl) rfl ?_
    refine ow_nil ?_
    refine tw_keep [(5, _), (6, _), (74, _), (75, _), (7, _)] ⟨rfl, rfl, rfl, rfl, rfl, trivial⟩ ?_
    refine tw_region ?_
    refine ow_g (g_mv rfl) rfl ?_
    refine ow_g (g_mv rfl) rfl ?_
    refine ow_g (g_mv rfl) rfl ?_
    refine ow_g (g_fold (j := 2) (g_quo rfl rfl (by decide)) (by decide)) rfl ?_
    refine ow_g (g_ixa Try.underlying104 ty24 rfl rfl (by decide)) rfl ?_
    refine ow_g (g_ldb sc24 rfl hb17 rfl) rfl ?_
    refine ow_g (g_mv rfl) rfl ?_
    refine ow_g (g_fold (j := 2) (g_rem rfl rfl (by decide)) (by decide)) rfl ?_
    refine ow_g (g_fold (j := 16) (g_mulw rfl rfl) (by decide)) rfl ?_
    refine ow_gx (e' := z38 / 65536) (lo := 0) (hi := 281474976710655) (g_shrp (m := 65536) rfl rfl (by decide) rfl) (rfl) (In.wk (in_div r34 (by decide)) rfl) rfl (fun z99 h63 r74 => ?_)
    refine ow_gx (e' := z99 % 256) (lo := 0) (hi := 255) (g_cv (by rw [Try.underlying24]; rfl) Try.underlying5 rfl) (wrap_uns rfl _) (In.wk (in_mod _ (by decide)) rfl) rfl (fun z100 h64 r75 => ?_)
    refine ow_g (g_ix Try.underlying22 ty5 rfl (by first | assumption | exact Own.rd (by assumption) | exact Rd.keep0 (by assumption) hB | exact Own.rd (Own.keep0 (by assumption) hB)) rfl (by omega)) rfl ?_
    refine ow_d0 (d_sto (u := .int .u8 z100) ty5 rfl rfl rfl o19 (blt_lt rfl)) ?_
    rintro _ w43 ⟨o20, k43, z101⟩
    have z_k43 := k43.size
    replace o20 : Own w43 _ 5 1 v1 32 [.int .u8 z46, .int .u8 z49, .int .u8 z52, .int .u8 z55, .int .u8 z58, .int .u8 z61, .int .u8 z64, .int .u8 z67, .int .u8 z70, .int .u8 z73, .int .u8 z76, .int .u8 z79, .int .u8 z82, .int .u8 z85, .int .u8 z88, .int .u8 z91, .int .u8 z94, .int .u8 z97, .int .u8 z100, .int .u8 0, .int .u8 0, .int .u8 0, .int .u8 0, .int .u8 0, .int .u8 0, .int .u8 0, .int .u8 0, .int .u8 0, .int .u8 0, .int .u8 0, .int .u8 0, .int .u8 0] := o20
    replace hb14 := hb14.keep k43 (fun hm => sb_b2_o1 _ hm rfl)
    replace hb15 := hb15.keep k43 (fun hm => sb_b1_o1 _ hm rfl)
    replace hb17 := hb17.keep k43 (fun hm => sb_b3_o1 _ hm rfl)
    replace hB := hB.new k43 (fun x hx => .inl (go_v1 x hx))
    clear z_k43 z101
    refine ow_nil ?_
    refine tw_keep [(5, _), (6, _), (74, _), (75, _)] ⟨rfl, rfl, rfl, rfl, trivial⟩ ?_
    refine tw_b ?_
    refine tw_region ?_
    refine ow_g (g_fold (j := 19) (g_addw rfl rfl) (by decide)) rfl ?_
    refine ow_g (g_mv rfl) rfl ?_
    refine ow_nil ?_
    refine tw_keep [(5, _), (6, _), (74, _), (75, _)] ⟨rfl, rfl, rfl, rfl, trivial⟩ ?_
    refine tw_lp ?_
    refine tw_seq ?_
    refine tw_region ?_
    refine ow_g (g_lt rfl rfl) rfl ?_
    refine ow_nil ?_
    refine tw_keep [(5, _), (6, _), (74, _), (75, _), (76, _)] ⟨rfl, rfl, rfl, rfl, rfl, trivial⟩ ?_
    refine tw_seq ?_
    refine tw_ifT rfl (by decide) ?_
    refine tw_skip ?_
    refine tw_seq ?_
    refine tw_block ?_
    refine tw_seq ?_
    refine tw_region ?_
    refine ow_g (g_mv rfl) rfl ?_
    refine ow_g (g_as rfl) rfl ?_
    refine ow_nil ?_
    refine tw_keep [(5, _), (6, _), (74, _), (75, _), (7, _)] ⟨rfl, rfl, rfl, rfl, rfl, trivial⟩ ?_
    refine tw_region ?_
    refine ow_g (g_mv rfl) rfl ?_
    refine ow_g (g_mv rfl) rfl ?_
    refine ow_g (g_mv rfl) rfl ?_
    refine ow_g (g_fold (j := 2) (g_quo rfl rfl (by decide)) (by decide)) rfl ?_
    refine ow_g (g_ixa Try.underlying104 ty24 rfl rfl (by decide)) rfl ?_
    refine ow_g (g_ldb sc24 rfl hb17 rfl) rfl ?_
    refine ow_g (g_mv rfl) rfl ?_
    refine ow_g (g_fold (j := 3) (g_rem rfl rfl (by decide)) (by decide)) rfl ?_
    refine ow_g (g_fold (j := 24) (g_mulw rfl rfl) (by decide)) rfl ?_
    refine ow_gx (e' := z38 / 16777216) (lo := 0) (hi := 1099511627775) (g_shrp (m := 16777216) rfl rfl (by decide) rfl) (rfl) (In.wk (in_div r34 (by decide)) rfl) rfl (fun z102 h65 r76 => ?_)
    refine ow_gx (e' := z102 % 256) (lo := 0) (hi := 255) (g_cv (by rw [Try.underlying24]; rfl) Try.underlying5 rfl) (wrap_uns rfl _) (In.wk (in_mod _ (by decide)) rfl) rfl (fun z103 h66 r77 => ?_)
    refine ow_g (g_ix Try.underlying22 ty5 rfl (by first | assumption | exact Own.rd (by assumption) | exact Rd.keep0 (by assumption) hB | exact Own.rd (Own.keep0 (by assumption) hB)) rfl (by omega)) rfl ?_
    refine ow_d0 (d_sto (u := .int .u8 z103) ty5 rfl rfl rfl o20 (blt_lt rfl)) ?_
    rintro _ w44 ⟨o21, k44, z104⟩
    have z_k44 := k44.size
    replace o21 : Own w44 _ 5 1 v1 32 [.int .u8 z46, .int .u8 z49, .int .u8 z52, .int .u8 z55, .int .u8 z58, .int .u8 z61, .int .u8 z64, .int .u8 z67, .int .u8 z70, .int .u8 z73, .int .u8 z76, .int .u8 z79, .int .u8 z82, .int .u8 z85, .int .u8 z88, .int .u8 z91, .int .u8 z94, .int .u8 z97, .int .u8 z100, .int .u8 z103, .int .u8 0, .int .u8 0, .int .u8 0, .int .u8 0, .int .u8 0, .int .u8 0, .int .u8 0, .int .u8 0, .int .u8 0, .int .u8 0, .int .u8 0, .int .u8 0] := o21
    replace hb14 := hb14.keep k44 (fun hm => sb_b2_o1 _ hm rfl)
    replace hb15 := hb15.keep k44 (fun hm => sb_b1_o1 _ hm rfl)
    replace hb17 := hb17.keep k44 (fun hm => sb_b3_o1 _ hm rfl)
    replace hB := hB.new k44 (fun x hx => .inl (go_v1 x hx))
    clear z_k44 z104
    refine ow_nil ?_
    refine tw_keep [(5, _), (6, _), (74, _), (75, _)] ⟨rfl, rfl, rfl, rfl, trivial⟩ ?_
    refine tw_b ?_
    refine tw_region ?_
    refine ow_g (g_fold (j := 20) (g_addw rfl rfl) (by decide)) rfl ?_
    refine ow_g (g_mv rfl) rfl ?_
    refine ow_nil ?_
    refine tw_keep [(5, _), (6, _), (74, _), (75, _)] ⟨rfl, rfl, rfl, rfl, trivial⟩ ?_
    refine tw_lp ?_
    refine tw_seq ?_
    refine tw_region ?_
    refine ow_g (g_lt rfl rfl) rfl ?_
    refine ow_nil ?_
    refine tw_keep [(5, _), (6, _), (74, _), (75, _), (76, _)] ⟨rfl, rfl, rfl, rfl, rfl, trivial⟩ ?_
    refine tw_seq ?_
    refine tw_ifT rfl (by decide) ?_
    refine tw_skip ?_
    refine tw_seq ?_
    refine tw_block ?_
    refine tw_seq ?_
    refine tw_region ?_
    refine ow_g (g_mv rfl) rfl ?_
    refine ow_g (g_as rfl) rfl ?_
    refine ow_nil ?_
    refine tw_keep [(5, _), (6, _), (74, _), (75, _), (7, _)] ⟨rfl, rfl, rfl, rfl, rfl, trivial⟩ ?_
    refine tw_region ?_
    refine ow_g (g_mv rfl) rfl ?_
    refine ow_g (g_mv rfl) rfl ?_
    refine ow_g (g_mv rfl) rfl ?_
    refine ow_g (g_fold (j := 2) (g_quo rfl rfl (by decide)) (by decide)) rfl ?_
    refine ow_g (g_ixa Try.underlying104 ty24 rfl rfl (by decide)) rfl ?_
    refine ow_g (g_ldb sc24 rfl hb17 rfl) rfl ?_
    refine ow_g (g_mv rfl) rfl ?_
    refine ow_g (g_fold (j := 4) (g_rem rfl rfl (by decide)) (by decide)) rfl ?_
    refine ow_g (g_fold (j := 32) (g_mulw rfl rfl) (by decide)) rfl ?_
    refine ow_gx (e' := z38 / 4294967296) (lo := 0) (hi := 4294967295) (g_shrp (m := 4294967296) rfl rfl (by decide) rfl) (rfl) (In.wk (in_div r34 (by decide)) rfl) rfl (fun z105 h67 r78 => ?_)
    refine ow_gx (e' := z105 % 256) (lo := 0) (hi := 255) (g_cv (by rw [Try.underlying24]; rfl) Try.underlying5 rfl) (wrap_uns rfl _) (In.wk (in_mod _ (by decide)) rfl) rfl (fun z106 h68 r79 => ?_)
    refine ow_g (g_ix Try.underlying22 ty5 rfl (by first | assumption | exact Own.rd (by assumption) | exact Rd.keep0 (by assumption) hB | exact Own.rd (Own.keep0 (by assumption) hB)) rfl (by omega)) rfl ?_
    refine ow_d0 (d_sto (u := .int .u8 z106) ty5 rfl rfl rfl o21 (blt_lt rfl)) ?_
    rintro _ w45 ⟨o22, k45, z107⟩
    have z_k45 := k45.size
    replace o22 : Own w45 _ 5 1 v1 32 [.int .u8 z46, .int .u8 z49, .int .u8 z52, .int .u8 z55, .int .u8 z58, .int .u8 z61, .int .u8 z64, .int .u8 z67, .int .u8 z70, .int .u8 z73, .int .u8 z76, .int .u8 z79, .int .u8 z82, .int .u8 z85, .int .u8 z88, .int .u8 z91, .int .u8 z94, .int .u8 z97, .int .u8 z100, .int .u8 z103, .int .u8 z106, .int .u8 0, .int .u8 0, .int .u8 0, .int .u8 0, .int .u8 0, .int .u8 0, .int .u8 0, .int .u8 0, .int .u8 0, .int .u8 0, .int .u8 0] := o22
    replace hb14 := hb14.keep k45 (fun hm => sb_b2_o1 _ hm rfl)
    replace hb15 := hb15.keep k45 (fun hm => sb_b1_o1 _ hm rfl)
    replace hb17 := hb17.keep k45 (fun hm => sb_b3_o1 _ hm rfl)
    replace hB := hB.new k45 (fun x hx => .inl (go_v1 x hx))
    clear z_k45 z107
    refine ow_nil ?_
    refine tw_keep [(5, _), (6, _), (74, _), (75, _)] ⟨rfl, rfl, rfl, rfl, trivial⟩ ?_
    refine tw_b ?_
    refine tw_region ?_
    refine ow_g (g_fold (j := 21) (g_addw rfl rfl) (by decide)) rfl ?_
    refine ow_g (g_mv rfl) rfl ?_
    refine ow_nil ?_
    refine tw_keep [(5, _), (6, _), (74, _), (75, _)] ⟨rfl, rfl, rfl, rfl, trivial⟩ ?_
    refine tw_lp ?_
    refine tw_seq ?_
    refine tw_region ?_
    refine ow_g (g_lt rfl rfl) rfl ?_
    refine ow_nil ?_
    refine tw_keep [(5, _), (6, _), (74, _), (75, _), (76, _)] ⟨rfl, rfl, rfl, rfl, rfl, trivial⟩ ?_
    refine tw_seq ?_
    refine tw_ifT rfl (by decide) ?_
    refine tw_skip ?_
    refine tw_seq ?_
    refine tw_block ?_
    refine tw_seq ?_
    refine tw_region ?_
    refine ow_g (g_mv rfl) rfl ?_
    refine ow_g (g_as rfl) rfl ?_
    refine ow_nil ?_
    refine tw_keep [(5, _), (6, _), (74, _), (75, _), (7, _)] ⟨rfl, rfl, rfl, rfl, rfl, trivial⟩ ?_
    refine tw_region ?_
    refine ow_g (g_mv rfl) rfl ?_
    refine ow_g (g_mv rfl) rfl ?_
    refine ow_g (g_mv rfl) rfl ?_
    refine ow_g (g_fold (j := 2) (g_quo rfl rfl (by decide)) (by decide)) rfl ?_
    refine ow_g (g_ixa Try.underlying104 ty24 rfl rfl (by decide)) rfl ?_
    refine ow_g (g_ldb sc24 rfl hb17 rfl) rfl ?_
    refine ow_g (g_mv rfl) rfl ?_
    refine ow_g (g_fold (j := 5) (g_rem rfl rfl (by decide)) (by decide)) rfl ?_
    refine ow_g (g_fold (j := 40) (g_mulw rfl rfl) (by decide)) rfl ?_
    refine ow_gx (e' := z38 / 1099511627776) (lo := 0) (hi := 16777215) (g_shrp (m := 1099511627776) rfl rfl (by decide) rfl) (rfl) (In.wk (in_div r34 (by decide)) rfl) rfl (fun z108 h69 r80 => ?_)
    refine ow_gx (e' := z108 % 256) (lo := 0) (hi := 255) (g_cv (by rw [Try.underlying24]; rfl) Try.underlying5 rfl) (wrap_uns rfl _) (In.wk (in_mod _ (by decide)) rfl) rfl (fun z109 h70 r81 => ?_)
    refine ow_g (g_ix Try.underlying22 ty5 rfl (by first | assumption | exact Own.rd (by assumption) | exact Rd.keep0 (by assumption) hB | exact Own.rd (Own.keep0 (by assumption) hB)) rfl (by omega)) rfl ?_
    refine ow_d0 (d_sto (u := .int .u8 z109) ty5 rfl rfl rfl o22 (blt_lt rfl)) ?_
    rintro _ w46 ⟨o23, k46, z110⟩
    have z_k46 := k46.size
    replace o23 : Own w46 _ 5 1 v1 32 [.int .u8 z46, .int .u8 z49, .int .u8 z52, .int .u8 z55, .int .u8 z58, .int .u8 z61, .int .u8 z64, .int .u8 z67, .int .u8 z70, .int .u8 z73, .int .u8 z76, .int .u8 z79, .int .u8 z82, .int .u8 z85, .int .u8 z88, .int .u8 z91, .int .u8 z94, .int .u8 z97, .int .u8 z100, .int .u8 z103, .int .u8 z106, .int .u8 z109, .int .u8 0, .int .u8 0, .int .u8 0, .int .u8 0, .int .u8 0, .int .u8 0, .int .u8 0, .int .u8 0, .int .u8 0, .int .u8 0] := o23
    replace hb14 := hb14.keep k46 (fun hm => sb_b2_o1 _ hm rfl)
    replace hb15 := hb15.keep k46 (fun hm => sb_b1_o1 _ hm rfl)
    replace hb17 := hb17.keep k46 (fun hm => sb_b3_o1 _ hm rfl)
    replace hB := hB.new k46 (fun x hx => .inl (go_v1 x hx))
    clear z_k46 z110
    refine ow_nil ?_
    refine tw_keep [(5, _), (6, _), (74, _), (75, _)] ⟨rfl, rfl, rfl, rfl, trivial⟩ ?_
    refine tw_b ?_
    refine tw_region ?_
    refine ow_g (g_fold (j := 22) (g_addw rfl rfl) (by decide)) rfl ?_
    refine ow_g (g_mv rfl) rfl ?_
    refine ow_nil ?_
    refine tw_keep [(5, _), (6, _), (74, _), (75, _)] ⟨rfl, rfl, rfl, rfl, trivial⟩ ?_
    refine tw_lp ?_
    refine tw_seq ?_
    refine tw_region ?_
    refine ow_g (g_lt rfl rfl) rfl ?_
    refine ow_nil ?_
    refine tw_keep [(5, _), (6, _), (74, _), (75, _), (76, _)] ⟨rfl, rfl, rfl, rfl, rfl, trivial⟩ ?_
    refine tw_seq ?_
    refine tw_ifT rfl (by decide) ?_
    refine tw_skip ?_
    refine tw_seq ?_
    refine tw_block ?_
    refine tw_seq ?_
    refine tw_region ?_
    refine ow_g (g_mv rfl) rfl ?_
    refine ow_g (g_as rfl) rfl ?_
    refine ow_nil ?_
    refine tw_keep [(5, _), (6, _), (74, _), (75, _), (7, _)] ⟨rfl, rfl, rfl, rfl, rfl, trivial⟩ ?_
    refine tw_region ?_
    refine ow_g (g_mv rfl) rfl ?_
    refine ow_g (g_mv rfl) rfl ?_
    refine ow_g (g_mv rfl) rfl ?_
    refine ow_g (g_fold (j := 2) (g_quo rfl rfl (by decide)) (by decide)) rfl ?_
    refine ow_g (g_ixa Try.underlying104 ty24 rfl rfl (by decide)) rfl ?_
    refine ow_g (g_ldb sc24 rfl hb17 rfl) rfl ?_
    refine ow_g (g_mv rfl) rfl ?_
    refine ow_g (g_fold (j := 6) (g_rem rfl rfl (by decide)) (by decide)) rfl ?_
    refine ow_g (g_fold (j := 48) (g_mulw rfl rfl) (by decide)) rfl ?_
    refine ow_gx (e' := z38 / 281474976710656) (lo := 0) (hi := 65535) (g_shrp (m := 281474976710656) rfl rfl (by decide) rfl) (rfl) (In.wk (in_div r34 (by decide)) rfl) rfl (fun z111 h71 r82 => ?_)
    refine ow_gx (e' := z111 % 256) (lo := 0) (hi := 255) (g_cv (by rw [Try.underlying24]; rfl) Try.underlying5 rfl) (wrap_uns rfl _) (In.wk (in_mod _ (by decide)) rfl) rfl (fun z112 h72 r83 => ?_)
    refine ow_g (g_ix Try.underlying22 ty5 rfl (by first | assumption | exact Own.rd (by assumption) | exact Rd.keep0 (by assumption) hB | exact Own.rd (Own.keep0 (by assumption) hB)) rfl (by omega)) rfl ?_
    refine ow_d0 (d_sto (u := .int .u8 z112) ty5 rfl rfl rfl o23 (blt_lt rfl)) ?_
    rintro _ w47 ⟨o24, k47, z113⟩
    have z_k47 := k47.size
    replace o24 : Own w47 _ 5 1 v1 32 [.int .u8 z46, .int .u8 z49, .int .u8 z52, .int .u8 z55, .int .u8 z58, .int .u8 z61, .int .u8 z64, .int .u8 z67, .int .u8 z70, .int .u8 z73, .int .u8 z76, .int .u8 z79, .int .u8 z82, .int .u8 z85, .int .u8 z88, .int .u8 z91, .int .u8 z94, .int .u8 z97, .int .u8 z100, .int .u8 z103, .int .u8 z106, .int .u8 z109, .int .u8 z112, .int .u8 0, .int .u8 0, .int .u8 0, .int .u8 0, .int .u8 0, .int .u8 0, .int .u8 0, .int .u8 0, .int .u8 0] := o24
    replace hb14 := hb14.keep k47 (fun hm => sb_b2_o1 _ hm rfl)
    replace hb15 := hb15.keep k47 (fun hm => sb_b1_o1 _ hm rfl)
    replace hb17 := hb17.keep k47 (fun hm => sb_b3_o1 _ hm rfl)
    replace hB := hB.new k47 (fun x hx => .inl (go_v1 x hx))
    clear z_k47 z113
    refine ow_nil ?_
    refine tw_keep [(5, _), (6, _), (74, _), (75, _)] ⟨rfl, rfl, rfl, rfl, trivial⟩ ?_
    refine tw_b ?_
    refine tw_region ?_
    refine ow_g (g_fold (j := 23) (g_addw rfl rfl) (by decide)) rfl ?_
    refine ow_g (g_mv rfl) rfl ?_
    refine ow_nil ?_
    refine tw_keep [(5, _), (6, _), (74, _), (75, _)] ⟨rfl, rfl, rfl, rfl, trivial⟩ ?_
    refine tw_lp ?_
    refine tw_seq ?_
    refine tw_region ?_
    refine ow_g (g_lt rfl rfl) rfl ?_
    refine ow_nil ?_
    refine tw_keep [(5, _), (6, _), (74, _), (75, _), (76, _)] ⟨rfl, rfl, rfl, rfl, rfl, trivial⟩ ?_
    refine tw_seq ?_
    refine tw_ifT rfl (by decide) ?_
    refine tw_skip ?_
    refine tw_seq ?_
    refine tw_block ?_
    refine tw_seq ?_
    refine tw_region ?_
    refine ow_g (g_mv rfl) rfl ?_
    refine ow_g (g_as rfl) rfl ?_
    refine ow_nil ?_
    refine tw_keep [(5, _), (6, _), (74, _), (75, _), (7, _)] ⟨rfl, rfl, rfl, rfl, rfl, trivial⟩ ?_
    refine tw_region ?_
    refine ow_g (g_mv rfl) rfl ?_
    refine ow_g (g_mv rfl) rfl ?_
    refine ow_g (g_mv rfl) rfl ?_
    refine ow_g (g_fold (j := 2) (g_quo rfl rfl (by decide)) (by decide)) rfl ?_
    refine ow_g (g_ixa Try.underlying104 ty24 rfl rfl (by decide)) rfl ?_
    refine ow_g (g_ldb sc24 rfl hb17 rfl) rfl ?_
    refine ow_g (g_mv rfl) rfl ?_
    refine ow_g (g_fold (j := 7) (g_rem rfl rfl (by decide)) (by decide)) rfl ?_
    refine ow_g (g_fold (j := 56) (g_mulw rfl rfl) (by decide)) rfl ?_
    refine ow_gx (e' := z38 / 72057594037927936) (lo := 0) (hi := 255) (g_shrp (m := 72057594037927936) rfl rfl (by decide) rfl) (rfl) (In.wk (in_div r34 (by decide)) rfl) rfl (fun z114 h73 r84 => ?_)
    refine ow_gx (e' := z114) (lo := 0) (hi := 255) (g_cv (by rw [Try.underlying24]; rfl) Try.underlying5 rfl) (wrap_fit r84 rfl) (r84) rfl (fun z115 h74 r85 => ?_)
    refine ow_g (g_ix Try.underlying22 ty5 rfl (by first | assumption | exact Own.rd (by assumption) | exact Rd.keep0 (by assumption) hB | exact Own.rd (Own.keep0 (by assumption) hB)) rfl (by omega)) rfl ?_
    refine ow_d0 (d_sto (u := .int .u8 z115) ty5 rfl rfl rfl o24 (blt_lt rfl)) ?_
    rintro _ w48 ⟨o25, k48, z116⟩
    have z_k48 := k48.size
    replace o25 : Own w48 _ 5 1 v1 32 [.int .u8 z46, .int .u8 z49, .int .u8 z52, .int .u8 z55, .int .u8 z58, .int .u8 z61, .int .u8 z64, .int .u8 z67, .int .u8 z70, .int .u8 z73, .int .u8 z76, .int .u8 z79, .int .u8 z82, .int .u8 z85, .int .u8 z88, .int .u8 z91, .int .u8 z94, .int .u8 z97, .int .u8 z100, .int .u8 z103, .int .u8 z106, .int .u8 z109, .int .u8 z112, .int .u8 z115, .int .u8 0, .int .u8 0, .int .u8 0, .int .u8 0, .int .u8 0, .int .u8 0, .int .u8 0, .int .u8 0] := o25
    replace hb14 := hb14.keep k48 (fun hm => sb_b2_o1 _ hm rfl)
    replace hb15 := hb15.keep k48 (fun hm => sb_b1_o1 _ hm rfl)
    replace hb17 := hb17.keep k48 (fun hm => sb_b3_o1 _ hm rfl)
    replace hB := hB.new k48 (fun x hx => .inl (go_v1 x hx))
    clear z_k48 z116
    refine ow_nil ?_
    refine tw_keep [(5, _), (6, _), (74, _), (75, _)] ⟨rfl, rfl, rfl, rfl, trivial⟩ ?_
    refine tw_b ?_
    refine tw_region ?_
    refine ow_g (g_fold (j := 24) (g_addw rfl rfl) (by decide)) rfl ?_
    refine ow_g (g_mv rfl) rfl ?_
    refine ow_nil ?_
    refine tw_keep [(5, _), (6, _), (74, _), (75, _)] ⟨rfl, rfl, rfl, rfl, trivial⟩ ?_
    refine tw_lp ?_
    refine tw_seq ?_
    refine tw_region ?_
    refine ow_g (g_lt rfl rfl) rfl ?_
    refine ow_nil ?_
    refine tw_keep [(5, _), (6, _), (74, _), (75, _), (76, _)] ⟨rfl, rfl, rfl, rfl, rfl, trivial⟩ ?_
    refine tw_seq ?_
    refine tw_ifT rfl (by decide) ?_
    refine tw_skip ?_
    refine tw_seq ?_
    refine tw_block ?_
    refine tw_seq ?_
    refine tw_region ?_
    refine ow_g (g_mv rfl) rfl ?_
    refine ow_g (g_as rfl) rfl ?_
    refine ow_nil ?_
    refine tw_keep [(5, _), (6, _), (74, _), (75, _), (7, _)] ⟨rfl, rfl, rfl, rfl, rfl, trivial⟩ ?_
    refine tw_region ?_
    refine ow_g (g_mv rfl) rfl ?_
    refine ow_g (g_mv rfl) rfl ?_
    refine ow_g (g_mv rfl) rfl ?_
    refine ow_g (g_fold (j := 3) (g_quo rfl rfl (by decide)) (by decide)) rfl ?_
    refine ow_g (g_ixa Try.underlying104 ty24 rfl rfl (by decide)) rfl ?_
    refine ow_g (g_ldb sc24 rfl hb17 rfl) rfl ?_
    refine ow_g (g_mv rfl) rfl ?_
    refine ow_g (g_fold (j := 0) (g_rem rfl rfl (by decide)) (by decide)) rfl ?_
    refine ow_g (g_fold (j := 0) (g_mulw rfl rfl) (by decide)) rfl ?_
    refine ow_gx (e' := z41 / 1) (lo := 0) (hi := 9223372036854775807) (g_shrp (m := 1) rfl rfl (by decide) rfl) (rfl) (In.wk (in_div r37 (by decide)) rfl) rfl (fun z117 h75 r86 => ?_)
    refine ow_gx (e' := z117 % 256) (lo := 0) (hi := 255) (g_cv (by rw [Try.underlying24]; rfl) Try.underlying5 rfl) (wrap_uns rfl _) (In.wk (in_mod _ (by decide)) rfl) rfl (fun z118 h76 r87 => ?_)
    refine ow_g (g_ix Try.underlying22 ty5 rfl (by first | assumption | exact Own.rd (by assumption) | exact Rd.keep0 (by assumption) hB | exact Own.rd (Own.keep0 (by assumption) hB)) rfl (by omega)) rfl ?_
    refine ow_d0 (d_sto (u := .int .u8 z118) ty5 rfl rfl rfl o25 (blt_lt rfl)) ?_
    rintro _ w49 ⟨o26, k49, z119⟩
    have z_k49 := k49.size
    replace o26 : Own w49 _ 5 1 v1 32 [.int .u8 z46, .int .u8 z49, .int .u8 z52, .int .u8 z55, .int .u8 z58, .int .u8 z61, .int .u8 z64, .int .u8 z67, .int .u8 z70, .int .u8 z73, .int .u8 z76, .int .u8 z79, .int .u8 z82, .int .u8 z85, .int .u8 z88, .int .u8 z91, .int .u8 z94, .int .u8 z97, .int .u8 z100, .int .u8 z103, .int .u8 z106, .int .u8 z109, .int .u8 z112, .int .u8 z115, .int .u8 z118, .int .u8 0, .int .u8 0, .int .u8 0, .int .u8 0, .int .u8 0, .int .u8 0, .int .u8 0] := o26
    replace hb14 := hb14.keep k49 (fun hm => sb_b2_o1 _ hm rfl)
    replace hb15 := hb15.keep k49 (fun hm => sb_b1_o1 _ hm rfl)
    replace hb17 := hb17.keep k49 (fun hm => sb_b3_o1 _ hm rfl)
    replace hB := hB.new k49 (fun x hx => .inl (go_v1 x hx))
    clear z_k49 z119
    refine ow_nil ?_
    refine tw_keep [(5, _), (6, _), (74, _), (75, _)] ⟨rfl, rfl, rfl, rfl, trivial⟩ ?_
    refine tw_b ?_
    refine tw_region ?_
    refine ow_g (g_fold (j := 25) (g_addw rfl rfl) (by decide)) rfl ?_
    refine ow_g (g_mv rfl) rfl ?_
    refine ow_nil ?_
    refine tw_keep [(5, _), (6, _), (74, _), (75, _)] ⟨rfl, rfl, rfl, rfl, trivial⟩ ?_
    refine tw_lp ?_
    refine tw_seq ?_
    refine tw_region ?_
    refine ow_g (g_lt rfl rfl) rfl ?_
    refine ow_nil ?_
    refine tw_keep [(5, _), (6, _), (74, _), (75, _), (76, _)] ⟨rfl, rfl, rfl, rfl, rfl, trivial⟩ ?_
    refine tw_seq ?_
    refine tw_ifT rfl (by decide) ?_
    refine tw_skip ?_
    refine tw_seq ?_
    refine tw_block ?_
    refine tw_seq ?_
    refine tw_region ?_
    refine ow_g (g_mv rfl) rfl ?_
    refine ow_g (g_as rfl) rfl ?_
    refine ow_nil ?_
    refine tw_keep [(5, _), (6, _), (74, _), (75, _), (7, _)] ⟨rfl, rfl, rfl, rfl, rfl, trivial⟩ ?_
    refine tw_region ?_
    refine ow_g (g_mv rfl) rfl ?_
    refine ow_g (g_mv rfl) rfl ?_
    refine ow_g (g_mv rfl) rfl ?_
    refine ow_g (g_fold (j := 3) (g_quo rfl rfl (by decide)) (by decide)) rfl ?_
    refine ow_g (g_ixa Try.underlying104 ty24 rfl rfl (by decide)) rfl ?_
    refine ow_g (g_ldb sc24 rfl hb17 rfl) rfl ?_
    refine ow_g (g_mv rfl) rfl ?_
    refine ow_g (g_fold (j := 1) (g_rem rfl rfl (by decide)) (by decide)) rfl ?_
    refine ow_g (g_fold (j := 8) (g_mulw rfl rfl) (by decide)) rfl ?_
    refine ow_gx (e' := z41 / 256) (lo := 0) (hi := 36028797018963967) (g_shrp (m := 256) rfl rfl (by decide) rfl) (rfl) (In.wk (in_div r37 (by decide)) rfl) rfl (fun z120 h77 r88 => ?_)
    refine ow_gx (e' := z120 % 256) (lo := 0) (hi := 255) (g_cv (by rw [Try.underlying24]; rfl) Try.underlying5 rfl) (wrap_uns rfl _) (In.wk (in_mod _ (by decide)) rfl) rfl (fun z121 h78 r89 => ?_)
    refine ow_g (g_ix Try.underlying22 ty5 rfl (by first | assumption | exact Own.rd (by assumption) | exact Rd.keep0 (by assumption) hB | exact Own.rd (Own.keep0 (by assumption) hB)) rfl (by omega)) rfl ?_
    refine ow_d0 (d_sto (u := .int .u8 z121) ty5 rfl rfl rfl o26 (blt_lt rfl)) ?_
    rintro _ w50 ⟨o27, k50, z122⟩
    have z_k50 := k50.size
    replace o27 : Own w50 _ 5 1 v1 32 [.int .u8 z46, .int .u8 z49, .int .u8 z52, .int .u8 z55, .int .u8 z58, .int .u8 z61, .int .u8 z64, .int .u8 z67, .int .u8 z70, .int .u8 z73, .int .u8 z76, .int .u8 z79, .int .u8 z82, .int .u8 z85, .int .u8 z88, .int .u8 z91, .int .u8 z94, .int .u8 z97, .int .u8 z100, .int .u8 z103, .int .u8 z106, .int .u8 z109, .int .u8 z112, .int .u8 z115, .int .u8 z118, .int .u8 z121, .int .u8 0, .int .u8 0, .int .u8 0, .int .u8 0, .int .u8 0, .int .u8 0] := o27
    replace hb14 := hb14.keep k50 (fun hm => sb_b2_o1 _ hm rfl)
    replace hb15 := hb15.keep k50 (fun hm => sb_b1_o1 _ hm rfl)
    replace hb17 := hb17.keep k50 (fun hm => sb_b3_o1 _ hm rfl)
    replace hB := hB.new k50 (fun x hx => .inl (go_v1 x hx))
    clear z_k50 z122
    refine ow_nil ?_
    refine tw_keep [(5, _), (6, _), (74, _), (75, _)] ⟨rfl, rfl, rfl, rfl, trivial⟩ ?_
    refine tw_b ?_
    refine tw_region ?_
    refine ow_g (g_fold (j := 26) (g_addw rfl rfl) (by decide)) rfl ?_
    refine ow_g (g_mv rfl) rfl ?_
    refine ow_nil ?_
    refine tw_keep [(5, _), (6, _), (74, _), (75, _)] ⟨rfl, rfl, rfl, rfl, trivial⟩ ?_
    refine tw_lp ?_
    refine tw_seq ?_
    refine tw_region ?_
    refine ow_g (g_lt rfl rfl) rfl ?_
    refine ow_nil ?_
    refine tw_keep [(5, _), (6, _), (74, _), (75, _), (76, _)] ⟨rfl, rfl, rfl, rfl, rfl, trivial⟩ ?_
    refine tw_seq ?_
    refine tw_ifT rfl (by decide) ?_
    refine tw_skip ?_
    refine tw_seq ?_
    refine tw_block ?_
    refine tw_seq ?_
    refine tw_region ?_
    refine ow_g (g_mv rfl) rfl ?_
    refine ow_g (g_as rfl) rfl ?_
    refine ow_nil ?_
    refine tw_keep [(5, _), (6, _), (74, _), (75, _), (7, _)] ⟨rfl, rfl, rfl, rfl, rfl, trivial⟩ ?_
    refine tw_region ?_
    refine ow_g (g_mv rfl) rfl ?_
    refine ow_g (g_mv rfl) rfl ?_
    refine ow_g (g_mv rfl) rfl ?_
    refine ow_g (g_fold (j := 3) (g_quo rfl rfl (by decide)) (by decide)) rfl ?_
    refine ow_g (g_ixa Try.underlying104 ty24 rfl rfl (by decide)) rfl ?_
    refine ow_g (g_ldb sc24 rfl hb17 rfl) rfl ?_
    refine ow_g (g_mv rfl) rfl ?_
    refine ow_g (g_fold (j := 2) (g_rem rfl rfl (by decide)) (by decide)) rfl ?_
    refine ow_g (g_fold (j := 16) (g_mulw rfl rfl) (by decide)) rfl ?_
    refine ow_gx (e' := z41 / 65536) (lo := 0) (hi := 140737488355327) (g_shrp (m := 65536) rfl rfl (by decide) rfl) (rfl) (In.wk (in_div r37 (by decide)) rfl) rfl (fun z123 h79 r90 => ?_)
    refine ow_gx (e' := z123 % 256) (lo := 0) (hi := 255) (g_cv (by rw [Try.underlying24]; rfl) Try.underlying5 rfl) (wrap_uns rfl _) (In.wk (in_mod _ (by decide)) rfl) rfl (fun z124 h80 r91 => ?_)
    refine ow_g (g_ix Try.underlying22 ty5 rfl (by first | assumption | exact Own.rd (by assumption) | exact Rd.keep0 (by assumption) hB | exact Own.rd (Own.keep0 (by assumption) hB)) rfl (by omega)) rfl ?_
    refine ow_d0 (d_sto (u := .int .u8 z124) ty5 rfl rfl rfl o27 (blt_lt rfl)) ?_
    rintro _ w51 ⟨o28, k51, z125⟩
    have z_k51 := k51.size
    replace o28 : Own w51 _ 5 1 v1 32 [.int .u8 z46, .int .u8 z49, .int .u8 z52, .int .u8 z55, .int .u8 z58, .int .u8 z61, .int .u8 z64, .int .u8 z67, .int .u8 z70, .int .u8 z73, .int .u8 z76, .int .u8 z79, .int .u8 z82, .int .u8 z85, .int .u8 z88, .int .u8 z91, .int .u8 z94, .int .u8 z97, .int .u8 z100, .int .u8 z103, .int .u8 z106, .int .u8 z109, .int .u8 z112, .int .u8 z115, .int .u8 z118, .int .u8 z121, .int .u8 z124, .int .u8 0, .int .u8 0, .int .u8 0, .int .u8 0, .int .u8 0] := o28
    replace hb14 := hb14.keep k51 (fun hm => sb_b2_o1 _ hm rfl)
    replace hb15 := hb15.keep k51 (fun hm => sb_b1_o1 _ hm rfl)
    replace hb17 := hb17.keep k51 (fun hm => sb_b3_o1 _ hm rfl)
    replace hB := hB.new k51 (fun x hx => .inl (go_v1 x hx))
    clear z_k51 z125
    refine ow_nil ?_
    refine tw_keep [(5, _), (6, _), (74, _), (75, _)] ⟨rfl, rfl, rfl, rfl, trivial⟩ ?_
    refine tw_b ?_
    refine tw_region ?_
    refine ow_g (g_fold (j := 27) (g_addw rfl rfl) (by decide)) rfl ?_
    refine ow_g (g_mv rfl) rfl ?_
    refine ow_nil ?_
    refine tw_keep [(5, _), (6, _), (74, _), (75, _)] ⟨rfl, rfl, rfl, rfl, trivial⟩ ?_
    refine tw_lp ?_
    refine tw_seq ?_
    refine tw_region ?_
    refine ow_g (g_lt rfl rfl) rfl ?_
    refine ow_nil ?_
    refine tw_keep [(5, _), (6, _), (74, _), (75, _), (76, _)] ⟨rfl, rfl, rfl, rfl, rfl, trivial⟩ ?_
    refine tw_seq ?_
    refine tw_ifT rfl (by decide) ?_
    refine tw_skip ?_
    refine tw_seq ?_
    refine tw_block ?_
    refine tw_seq ?_
    refine tw_region ?_
    refine ow_g (g_mv rfl) rfl ?_
    refine ow_g (g_as rfl) rfl ?_
    refine ow_nil ?_
    refine tw_keep [(5, _), (6, _), (74, _), (75, _), (7, _)] ⟨rfl, rfl, rfl, rfl, rfl, trivial⟩ ?_
    refine tw_region ?_
    refine ow_g (g_mv rfl) rfl ?_
    refine ow_g (g_mv rfl) rfl ?_
    refine ow_g (g_mv rfl) rfl ?_
    refine ow_g (g_fold (j := 3) (g_quo rfl rfl (by decide)) (by decide)) rfl ?_
    refine ow_g (g_ixa Try.underlying104 ty24 rfl rfl (by decide)) rfl ?_
    refine ow_g (g_ldb sc24 rfl hb17 rfl) rfl ?_
    refine ow_g (g_mv rfl) rfl ?_
    refine ow_g (g_fold (j := 3) (g_rem rfl rfl (by decide)) (by decide)) rfl ?_
    refine ow_g (g_fold (j := 24) (g_mulw rfl rfl) (by decide)) rfl ?_
    refine ow_gx (e' := z41 / 16777216) (lo := 0) (hi := 549755813887) (g_shrp (m := 16777216) rfl rfl (by decide) rfl) (rfl) (In.wk (in_div r37 (by decide)) rfl) rfl (fun z126 h81 r92 => ?_)
    refine ow_gx (e' := z126 % 256) (lo := 0) (hi := 255) (g_cv (by rw [Try.underlying24]; rfl) Try.underlying5 rfl) (wrap_uns rfl _) (In.wk (in_mod _ (by decide)) rfl) rfl (fun z127 h82 r93 => ?_)
    refine ow_g (g_ix Try.underlying22 ty5 rfl (by first | assumption | exact Own.rd (by assumption) | exact Rd.keep0 (by assumption) hB | exact Own.rd (Own.keep0 (by assumption) hB)) rfl (by omega)) rfl ?_
    refine ow_d0 (d_sto (u := .int .u8 z127) ty5 rfl rfl rfl o28 (blt_lt rfl)) ?_
    rintro _ w52 ⟨o29, k52, z128⟩
    have z_k52 := k52.size
    replace o29 : Own w52 _ 5 1 v1 32 [.int .u8 z46, .int .u8 z49, .int .u8 z52, .int .u8 z55, .int .u8 z58, .int .u8 z61, .int .u8 z64, .int .u8 z67, .int .u8 z70, .int .u8 z73, .int .u8 z76, .int .u8 z79, .int .u8 z82, .int .u8 z85, .int .u8 z88, .int .u8 z91, .int .u8 z94, .int .u8 z97, .int .u8 z100, .int .u8 z103, .int .u8 z106, .int .u8 z109, .int .u8 z112, .int .u8 z115, .int .u8 z118, .int .u8 z121, .int .u8 z124, .int .u8 z127, .int .u8 0, .int .u8 0, .int .u8 0, .int .u8 0] := o29
    replace hb14 := hb14.keep k52 (fun hm => sb_b2_o1 _ hm rfl)
    replace hb15 := hb15.keep k52 (fun hm => sb_b1_o1 _ hm rfl)
    replace hb17 := hb17.keep k52 (fun hm => sb_b3_o1 _ hm rfl)
    replace hB := hB.new k52 (fun x hx => .inl (go_v1 x hx))
    clear z_k52 z128
    refine ow_nil ?_
    refine tw_keep [(5, _), (6, _), (74, _), (75, _)] ⟨rfl, rfl, rfl, rfl, trivial⟩ ?_
    refine tw_b ?_
    refine tw_region ?_
    refine ow_g (g_fold (j := 28) (g_addw rfl rfl) (by decide)) rfl ?_
    refine ow_g (g_mv rfl) rfl ?_
    refine ow_nil ?_
    refine tw_keep [(5, _), (6, _), (74, _), (75, _)] ⟨rfl, rfl, rfl, rfl, trivial⟩ ?_
    refine tw_lp ?_
    refine tw_seq ?_
    refine tw_region ?_
    refine ow_g (g_lt rfl rfl) rfl ?_
    refine ow_nil ?_
    refine tw_keep [(5, _), (6, _), (74, _), (75, _), (76, _)] ⟨rfl, rfl, rfl, rfl, rfl, trivial⟩ ?_
    refine tw_seq ?_
    refine tw_ifT rfl (by decide) ?_
    refine tw_skip ?_
    refine tw_seq ?_
    refine tw_block ?_
    refine tw_seq ?_
    refine tw_region ?_
    refine ow_g (g_mv rfl) rfl ?_
    refine ow_g (g_as rfl) rfl ?_
    refine ow_nil ?_
    refine tw_keep [(5, _), (6, _), (74, _), (75, _), (7, _)] ⟨rfl, rfl, rfl, rfl, rfl, trivial⟩ ?_
    refine tw_region ?_
    refine ow_g (g_mv rfl) rfl ?_
    refine ow_g (g_mv rfl) rfl ?_
    refine ow_g (g_mv rfl) rfl ?_
    refine ow_g (g_fold (j := 3) (g_quo rfl rfl (by decide)) (by decide)) rfl ?_
    refine ow_g (g_ixa Try.underlying104 ty24 rfl rfl (by decide)) rfl ?_
    refine ow_g (g_ldb sc24 rfl hb17 rfl) rfl ?_
    refine ow_g (g_mv rfl) rfl ?_
    refine ow_g (g_fold (j := 4) (g_rem rfl rfl (by decide)) (by decide)) rfl ?_
    refine ow_g (g_fold (j := 32) (g_mulw rfl rfl) (by decide)) rfl ?_
    refine ow_gx (e' := z41 / 4294967296) (lo := 0) (hi := 2147483647) (g_shrp (m := 4294967296) rfl rfl (by decide) rfl) (rfl) (In.wk (in_div r37 (by decide)) rfl) rfl (fun z129 h83 r94 => ?_)
    refine ow_gx (e' := z129 % 256) (lo := 0) (hi := 255) (g_cv (by rw [Try.underlying24]; rfl) Try.underlying5 rfl) (wrap_uns rfl _) (In.wk (in_mod _ (by decide)) rfl) rfl (fun z130 h84 r95 => ?_)
    refine ow_g (g_ix Try.underlying22 ty5 rfl (by first | assumption | exact Own.rd (by assumption) | exact Rd.keep0 (by assumption) hB | exact Own.rd (Own.keep0 (by assumption) hB)) rfl (by omega)) rfl ?_
    refine ow_d0 (d_sto (u := .int .u8 z130) ty5 rfl rfl rfl o29 (blt_lt rfl)) ?_
    rintro _ w53 ⟨o30, k53, z131⟩
    have z_k53 := k53.size
    replace o30 : Own w53 _ 5 1 v1 32 [.int .u8 z46, .int .u8 z49, .int .u8 z52, .int .u8 z55, .int .u8 z58, .int .u8 z61, .int .u8 z64, .int .u8 z67, .int .u8 z70, .int .u8 z73, .int .u8 z76, .int .u8 z79, .int .u8 z82, .int .u8 z85, .int .u8 z88, .int .u8 z91, .int .u8 z94, .int .u8 z97, .int .u8 z100, .int .u8 z103, .int .u8 z106, .int .u8 z109, .int .u8 z112, .int .u8 z115, .int .u8 z118, .int .u8 z121, .int .u8 z124, .int .u8 z127, .int .u8 z130, .int .u8 0, .int .u8 0, .int .u8 0] := o30
    replace hb14 := hb14.keep k53 (fun hm => sb_b2_o1 _ hm rfl)
    replace hb15 := hb15.keep k53 (fun hm => sb_b1_o1 _ hm rfl)
    replace hb17 := hb17.keep k53 (fun hm => sb_b3_o1 _ hm rfl)
    replace hB := hB.new k53 (fun x hx => .inl (go_v1 x hx))
    clear z_k53 z131
    refine ow_nil ?_
    refine tw_keep [(5, _), (6, _), (74, _), (75, _)] ⟨rfl, rfl, rfl, rfl, trivial⟩ ?_
    refine tw_b ?_
    refine tw_region ?_
    refine ow_g (g_fold (j := 29) (g_addw rfl rfl) (by decide)) rfl ?_
    refine ow_g (g_mv rfl) rfl ?_
    refine ow_nil ?_
    refine tw_keep [(5, _), (6, _), (74, _), (75, _)] ⟨rfl, rfl, rfl, rfl, trivial⟩ ?_
    refine tw_lp ?_
    refine tw_seq ?_
    refine tw_region ?_
    refine ow_g (g_lt rfl rfl) rfl ?_
    refine ow_nil ?_
    refine tw_keep [(5, _), (6, _), (74, _), (75, _), (76, _)] ⟨rfl, rfl, rfl, rfl, rfl, trivial⟩ ?_
    refine tw_seq ?_
    refine tw_ifT rfl (by decide) ?_
    refine tw_skip ?_
    refine tw_seq ?_
    refine tw_block ?_
    refine tw_seq ?_
    refine tw_region ?_
    refine ow_g (g_mv rfl) rfl ?_
    refine ow_g (g_as rfl) rfl ?_
    refine ow_nil ?_
    refine tw_keep [(5, _), (6, _), (74, _), (75, _), (7, _)] ⟨rfl, rfl, rfl, rfl, rfl, trivial⟩ ?_
    refine tw_region ?_
    refine ow_g (g_mv rfl) rfl ?_
    refine ow_g (g_mv rfl) rfl ?_
    refine ow_g (g_mv rfl) rfl ?_
    refine ow_g (g_fold (j := 3) (g_quo rfl rfl (by decide)) (by decide)) rfl ?_
    refine ow_g (g_ixa Try.underlying104 ty24 rfl rfl (by decide)) rfl ?_
    refine ow_g (g_ldb sc24 rfl hb17 rfl) rfl ?_
    refine ow_g (g_mv rfl) rfl ?_
    refine ow_g (g_fold (j := 5) (g_rem rfl rfl (by decide)) (by decide)) rfl ?_
    refine ow_g (g_fold (j := 40) (g_mulw rfl rfl) (by decide)) rfl ?_
    refine ow_gx (e' := z41 / 1099511627776) (lo := 0) (hi := 8388607) (g_shrp (m := 1099511627776) rfl rfl (by decide) rfl) (rfl) (In.wk (in_div r37 (by decide)) rfl) rfl (fun z132 h85 r96 => ?_)
    refine ow_gx (e' := z132 % 256) (lo := 0) (hi := 255) (g_cv (by rw [Try.underlying24]; rfl) Try.underlying5 rfl) (wrap_uns rfl _) (In.wk (in_mod _ (by decide)) rfl) rfl (fun z133 h86 r97 => ?_)
    refine ow_g (g_ix Try.underlying22 ty5 rfl (by first | assumption | exact Own.rd (by assumption) | exact Rd.keep0 (by assumption) hB | exact Own.rd (Own.keep0 (by assumption) hB)) rfl (by omega)) rfl ?_
    refine ow_d0 (d_sto (u := .int .u8 z133) ty5 rfl rfl rfl o30 (blt_lt rfl)) ?_
    rintro _ w54 ⟨o31, k54, z134⟩
    have z_k54 := k54.size
    replace o31 : Own w54 _ 5 1 v1 32 [.int .u8 z46, .int .u8 z49, .int .u8 z52, .int .u8 z55, .int .u8 z58, .int .u8 z61, .int .u8 z64, .int .u8 z67, .int .u8 z70, .int .u8 z73, .int .u8 z76, .int .u8 z79, .int .u8 z82, .int .u8 z85, .int .u8 z88, .int .u8 z91, .int .u8 z94, .int .u8 z97, .int .u8 z100, .int .u8 z103, .int .u8 z106, .int .u8 z109, .int .u8 z112, .int .u8 z115, .int .u8 z118, .int .u8 z121, .int .u8 z124, .int .u8 z127, .int .u8 z130, .int .u8 z133, .int .u8 0, .int .u8 0] := o31
    replace hb14 := hb14.keep k54 (fun hm => sb_b2_o1 _ hm rfl)
    replace hb15 := hb15.keep k54 (fun hm => sb_b1_o1 _ hm rfl)
    replace hb17 := hb17.keep k54 (fun hm => sb_b3_o1 _ hm rfl)
    replace hB := hB.new k54 (fun x hx => .inl (go_v1 x hx))
    clear z_k54 z134
    refine ow_nil ?_
    refine tw_keep [(5, _), (6, _), (74, _), (75, _)] ⟨rfl, rfl, rfl, rfl, trivial⟩ ?_
    refine tw_b ?_
    refine tw_region ?_
    refine ow_g (g_fold (j := 30) (g_addw rfl rfl) (by decide)) rfl ?_
    refine ow_g (g_mv rfl) rfl ?_
    refine ow_nil ?_
    refine tw_keep [(5, _), (6, _), (74, _), (75, _)] ⟨rfl, rfl, rfl, rfl, trivial⟩ ?_
    refine tw_lp ?_
    refine tw_seq ?_
    refine tw_region ?_
    refine ow_g (g_lt rfl rfl) rfl ?_
    refine ow_nil ?_
    refine tw_keep [(5, _), (6, _), (74, _), (75, _), (76, _)] ⟨rfl, rfl, rfl, rfl, rfl, trivial⟩ ?_
    refine tw_seq ?_
    refine tw_ifT rfl (by decide) ?_
    refine tw_skip ?_
    refine tw_seq ?_
    refine tw_block ?_
    refine tw_seq ?_
    refine tw_region ?_
    refine ow_g (g_mv rfl) rfl ?_
    refine ow_g (g_as rfl) rfl ?_
    refine ow_nil ?_
    refine tw_keep [(5, _), (6, _), (74, _), (75, _), (7, _)] ⟨rfl, rfl, rfl, rfl, rfl, trivial⟩ ?_
    refine tw_region ?_
    refine ow_g (g_mv rfl) rfl ?_
    refine ow_g (g_mv rfl) rfl ?_
    refine ow_g (g_mv rfl) rfl ?_
    refine ow_g (g_fold (j := 3) (g_quo rfl rfl (by decide)) (by decide)) rfl ?_
    refine ow_g (g_ixa Try.underlying104 ty24 rfl rfl (by decide)) rfl ?_
    refine ow_g (g_ldb sc24 rfl hb17 rfl) rfl ?_
    refine ow_g (g_mv rfl) rfl ?_
    refine ow_g (g_fold (j := 6) (g_rem rfl rfl (by decide)) (by decide)) rfl ?_
    refine ow_g (g_fold (j := 48) (g_mulw rfl rfl) (by decide)) rfl ?_
    refine ow_gx (e' := z41 / 281474976710656) (lo := 0) (hi := 32767) (g_shrp (m := 281474976710656) rfl rfl (by decide) rfl) (rfl) (In.wk (in_div r37 (by decide)) rfl) rfl (fun z135 h87 r98 => ?_)
    refine ow_gx (e' := z135 % 256) (lo := 0) (hi := 255) (g_cv (by rw [Try.underlying24]; rfl) Try.underlying5 rfl) (wrap_uns rfl _) (In.wk (in_mod _ (by decide)) rfl) rfl (fun z136 h88 r99 => ?_)
    refine ow_g (g_ix Try.underlying22 ty5 rfl (by first | assumption | exact Own.rd (by assumption) | exact Rd.keep0 (by assumption) hB | exact Own.rd (Own.keep0 (by assumption) hB)) rfl (by omega)) rfl ?_
    refine ow_d0 (d_sto (u := .int .u8 z136) ty5 rfl rfl rfl o31 (blt_lt rfl)) ?_
    rintro _ w55 ⟨o32, k55, z137⟩
    have z_k55 := k55.size
    replace o32 : Own w55 _ 5 1 v1 32 [.int .u8 z46, .int .u8 z49, .int .u8 z52, .int .u8 z55, .int .u8 z58, .int .u8 z61, .int .u8 z64, .int .u8 z67, .int .u8 z70, .int .u8 z73, .int .u8 z76, .int .u8 z79, .int .u8 z82, .int .u8 z85, .int .u8 z88, .int .u8 z91, .int .u8 z94, .int .u8 z97, .int .u8 z100, .int .u8 z103, .int .u8 z106, .int .u8 z109, .int .u8 z112, .int .u8 z115, .int .u8 z118, .int .u8 z121, .int .u8 z124, .int .u8 z127, .int .u8 z130, .int .u8 z133, .int .u8 z136, .int .u8 0] := o32
    replace hb14 := hb14.keep k55 (fun hm => sb_b2_o1 _ hm rfl)
    replace hb15 := hb15.keep k55 (fun hm => sb_b1_o1 _ hm rfl)
    replace hb17 := hb17.keep k55 (fun hm => sb_b3_o1 _ hm rfl)
    replace hB := hB.new k55 (fun x hx => .inl (go_v1 x hx))
    clear z_k55 z137
    refine ow_nil ?_
    refine tw_keep [(5, _), (6, _), (74, _), (75, _)] ⟨rfl, rfl, rfl, rfl, trivial⟩ ?_
    refine tw_b ?_
    refine tw_region ?_
    refine ow_g (g_fold (j := 31) (g_addw rfl rfl) (by decide)) rfl ?_
    refine ow_g (g_mv rfl) rfl ?_
    refine ow_nil ?_
    refine tw_keep [(5, _), (6, _), (74, _), (75, _)] ⟨rfl, rfl, rfl, rfl, trivial⟩ ?_
    refine tw_lp ?_
    refine tw_seq ?_
    refine tw_region ?_
    refine ow_g (g_lt rfl rfl) rfl ?_
    refine ow_nil ?_
    refine tw_keep [(5, _), (6, _), (74, _), (75, _), (76, _)] ⟨rfl, rfl, rfl, rfl, rfl, trivial⟩ ?_
    refine tw_seq ?_
    refine tw_ifT rfl (by decide) ?_
    refine tw_skip ?_
    refine tw_seq ?_
    refine tw_block ?_
    refine tw_seq ?_
    refine tw_region ?_
    refine ow_g (g_mv rfl) rfl ?_
    refine ow_g (g_as rfl) rfl ?_
    refine ow_nil ?_
    refine tw_keep [(5, _), (6, _), (74, _), (75, _), (7, _)] ⟨rfl, rfl, rfl, rfl, rfl, trivial⟩ ?_
    refine tw_region ?_
    refine ow_g (g_mv rfl) rfl ?_
    refine ow_g (g_mv rfl) rfl ?_
    refine ow_g (g_mv rfl) rfl ?_
    refine ow_g (g_fold (j := 3) (g_quo rfl rfl (by decide)) (by decide)) rfl ?_
    refine ow_g (g_ixa Try.underlying104 ty24 rfl rfl (by decide)) rfl ?_
    refine ow_g (g_ldb sc24 rfl hb17 rfl) rfl ?_
    refine ow_g (g_mv rfl) rfl ?_
    refine ow_g (g_fold (j := 7) (g_rem rfl rfl (by decide)) (by decide)) rfl ?_
    refine ow_g (g_fold (j := 56) (g_mulw rfl rfl) (by decide)) rfl ?_
    refine ow_gx (e' := z41 / 72057594037927936) (lo := 0) (hi := 127) (g_shrp (m := 72057594037927936) rfl rfl (by decide) rfl) (rfl) (In.wk (in_div r37 (by decide)) rfl) rfl (fun z138 h89 r100 => ?_)
    refine ow_gx (e' := z138) (lo := 0) (hi := 127) (g_cv (by rw [Try.underlying24]; rfl) Try.underlying5 rfl) (wrap_fit r100 rfl) (r100) rfl (fun z139 h90 r101 => ?_)
    refine ow_g (g_ix Try.underlying22 ty5 rfl (by first | assumption | exact Own.rd (by assumption) | exact Rd.keep0 (by assumption) hB | exact Own.rd (Own.keep0 (by assumption) hB)) rfl (by omega)) rfl ?_
    refine ow_d0 (d_sto (u := .int .u8 z139) ty5 rfl rfl rfl o32 (blt_lt rfl)) ?_
    rintro _ w56 ⟨o33, k56, z140⟩
    have z_k56 := k56.size
    replace o33 : Own w56 _ 5 1 v1 32 [.int .u8 z46, .int .u8 z49, .int .u8 z52, .int .u8 z55, .int .u8 z58, .int .u8 z61, .int .u8 z64, .int .u8 z67, .int .u8 z70, .int .u8 z73, .int .u8 z76, .int .u8 z79, .int .u8 z82, .int .u8 z85, .int .u8 z88, .int .u8 z91, .int .u8 z94, .int .u8 z97, .int .u8 z100, .int .u8 z103, .int .u8 z106, .int .u8 z109, .int .u8 z112, .int .u8 z115, .int .u8 z118, .int .u8 z121, .int .u8 z124, .int .u8 z127, .int .u8 z130, .int .u8 z133, .int .u8 z136, .int .u8 z139] := o33
    replace hb14 := hb14.keep k56 (fun hm => sb_b2_o1 _ hm rfl)
    replace hb15 := hb15.keep k56 (fun hm => sb_b1_o1 _ hm rfl)
    replace hb17 := hb17.keep k56 (fun hm => sb_b3_o1 _ hm rfl)
    replace hB := hB.new k56 (fun x hx => .inl (go_v1 x hx))
    clear z_k56 z140
    refine ow_nil ?_
    refine tw_keep [(5, _), (6, _), (74, _), (75, _)] ⟨rfl, rfl, rfl, rfl, trivial⟩ ?_
    refine tw_b ?_
    refine tw_region ?_
    refine ow_g (g_fold (j := 32) (g_addw rfl rfl) (by decide)) rfl ?_
    refine ow_g (g_mv rfl) rfl ?_
    refine ow_nil ?_
    refine tw_keep [(5, _), (6, _), (74, _), (75, _)] ⟨rfl, rfl, rfl, rfl, trivial⟩ ?_
    refine tw_lp ?_
    refine tw_seq ?_
    refine tw_region ?_
    refine ow_g (g_lt rfl rfl) rfl ?_
    refine ow_nil ?_
    refine tw_keep [(5, _), (6, _), (74, _), (75, _), (76, _)] ⟨rfl, rfl, rfl, rfl, rfl, trivial⟩ ?_
    refine tw_seq ?_
    refine tw_ifF rfl (by decide) ?_
    refine tw_exit rfl ?_
    refine tw_seq ?_
    refine tw_region ?_
    refine ow_g (g_mv rfl) rfl ?_
    refine ow_g (g_as rfl) rfl ?_
    refine ow_nil ?_
    refine tw_keep [(2, _)] ⟨rfl, trivial⟩ ?_
    refine tw_ret1 hfin Try.results68 rfl ?_
    have hv2 : val5 hh2 = hh2 0 + hh2 1 * 2251799813685248 + hh2 2 * 5070602400912917605986812821504 + hh2 3 * 11417981541647679048466287755595961091061972992 + hh2 4 * 25711008708143844408671393477458601640355247900524685364822016 := rfl
    have hV0 : In (z10 + z15 * 2251799813685248 + z20 * 5070602400912917605986812821504 + z25 * 11417981541647679048466287755595961091061972992 + z28 * 25711008708143844408671393477458601640355247900524685364822016) 0 (57896044618658097711785492504343953926634992332820282019728792003956564819949 - 1) := by clear e01 e11 e21 e31 e41 g01 g11 g21 g31 g41 e02 e12 e22 e32 e42 g02 g12 g22 g32 g42 gv1 gv2; simp only [Eqn, In] at h1 h2 h3 h4 h5 h6 h7 h8 h9 h10 h11 h12 h13 h14 h15 r15 r18 r21 r24 r26 r11 r7 r8 r9 r10 ⊢; omega
    have hVa : fp (z10 + z15 * 2251799813685248 + z20 * 5070602400912917605986812821504 + z25 * 11417981541647679048466287755595961091061972992 + z28 * 25711008708143844408671393477458601640355247900524685364822016) = a := by rw [← hfv]; exact fp_eq (-(c41 + c42 + 1)) (by have gv1 := gv1; have gv2 := gv2; clear e01 e11 e21 e31 e41 g01 g11 g21 g31 g41 e02 e12 e22 e32 e42 g02 g12 g22 g32 g42; simp only [Eqn, In] at h1 h2 h3 h4 h5 h6 h7 h8 h9 h10 h11 h12 h13 h14 h15 r15 r18 r21 r24 r26 r11 r7 r8 r9 r10; omega)
    have hval : (a.val : Int) = (z10 + z15 * 2251799813685248 + z20 * 5070602400912917605986812821504 + z25 * 11417981541647679048466287755595961091061972992 + z28 * 25711008708143844408671393477458601640355247900524685364822016) := val_of hVa hV0.1 (by have := hV0.2; omega)
    have hpw := put_words (In.wk r15 rfl) (In.wk r18 rfl) (In.wk r21 rfl) (In.wk r24 rfl) (In.wk r26 rfl)
    have hwb := words_bytes (V := (z10 + z15 * 2251799813685248 + z20 * 5070602400912917605986812821504 + z25 * 11417981541647679048466287755595961091061972992 + z28 * 25711008708143844408671393477458601640355247900524685364822016)) (In.wk r28 rfl) (In.wk r31 rfl) (In.wk r34 rfl) (In.wk r37 rfl) (by clear hval hVa hV0; simp only [Eqn] at h26 h25 h24 h23 h22 h21 h20 h19 h18 h17 h16; subst h26 h25 h24 h23 h22 h21 h20 h19 h18 h17 h16; exact hpw)
    have hcs : [.int .u8 z46, .int .u8 z49, .int .u8 z52, .int .u8 z55, .int .u8 z58, .int .u8 z61, .int .u8 z64, .int .u8 z67, .int .u8 z70, .int .u8 z73, .int .u8 z76, .int .u8 z79, .int .u8 z82, .int .u8 z85, .int .u8 z88, .int .u8 z91, .int .u8 z94, .int .u8 z97, .int .u8 z100, .int .u8 z103, .int .u8 z106, .int .u8 z109, .int .u8 z112, .int .u8 z115, .int .u8 z118, .int .u8 z121, .int .u8 z124, .int .u8 z127, .int .u8 z130, .int .u8 z133, .int .u8 z136, .int .u8 z139] = bv (fpB a) := by
      rw [bv_fpB, hval, hwb]
      simp only [Eqn] at h90 h89 h88 h87 h86 h85 h84 h83 h82 h81 h80 h79 h78 h77 h76 h75 h74 h73 h72 h71 h70 h69 h68 h67 h66 h65 h64 h63 h62 h61 h60 h59 h58 h57 h56 h55 h54 h53 h52 h51 h50 h49 h48 h47 h46 h45 h44 h43 h42 h41 h40 h39 h38 h37 h36 h35 h34 h33 h32 h31 h30 h29 h28 h27
      simp only [h90, h89, h88, h87, h86, h85, h84, h83, h82, h81, h80, h79, h78, h77, h76, h75, h74, h73, h72, h71, h70, h69, h68, h67, h66, h65, h64, h63, h62, h61, h60, h59, h58, h57, h56, h55, h54, h53, h52, h51, h50, h49, h48, h47, h46, h45, h44, h43, h42, h41, h40, h39, h38, h37, h36, h35, h34, h33, h32, h31, h30, h29, h28, h27, Int.ediv_one]
    rw [hcs] at o33
    exact ⟨by unfold OwnB; rw [fpB_length]; exact o33.lo gl_v1, hB⟩
  · -- no
    refine tw_skip ?_
    refine tw_seq ?_
    refine tw_region ?_
    refine ow_g (g_ixa Try.underlying26 ty24 rfl rfl (by decide)) rfl ?_
    refine ow_g (g_ldb sc24 rfl hb2 rfl) rfl ?_
    refine ow_g (g_ixa Try.underlying26 ty24 rfl rfl (by decide)) rfl ?_
    refine ow_g (g_ldb sc24 rfl hb2 rfl) rfl ?_
    refine ow_gx (e' := ((hh2 1) * 2251799813685248) % 18446744073709551616) (lo := 0) (hi := 18446744073709551615) (g_shlp (m := 2251799813685248) rfl rfl (by decide) rfl) (wrap_uns rfl _) (In.wk (in_mod _ (by decide)) rfl) rfl (fun z141 h91 r102 => ?_)
    refine ow_gx (e' := (hh2 0) + z141) (lo := 0) (hi := 18446744073709551615) (g_or rfl rfl) (or_join' 51 (m := 2251799813685248) r102 rfl r11 rfl rfl rfl rfl (eq_mod h91 (mul_mod_mod _ (by decide))) rfl rfl) (In.wk (or_in (k := .u64) rfl (or_join' 51 (m := 2251799813685248) r102 rfl r11 rfl rfl rfl rfl (eq_mod h91 (mul_mod_mod _ (by decide))) rfl rfl)) rfl) rfl (fun z142 h92 r103 => ?_)
    refine ow_g (g_ixa Try.underlying26 ty24 rfl rfl (by decide)) rfl ?_
    refine ow_g (g_ldb sc24 rfl hb2 rfl) rfl ?_
    refine ow_gx (e' := (hh2 1) / 8192) (lo := 0) (hi := 274877906943) (g_shrp (m := 8192) rfl rfl (by decide) rfl) (rfl) (In.wk (in_div r7 (by decide)) rfl) rfl (fun z143 h93 r104 => ?_)
    refine ow_g (g_ixa Try.underlying26 ty24 rfl rfl (by decide)) rfl ?_
    refine ow_g (g_ldb sc24 rfl hb2 rfl) rfl ?_
    refine ow_gx (e' := ((hh2 2) * 274877906944) % 18446744073709551616) (lo := 0) (hi := 18446744073709551615) (g_shlp (m := 274877906944) rfl rfl (by decide) rfl) (wrap_uns rfl _) (In.wk (in_mod _ (by decide)) rfl) rfl (fun z144 h94 r105 => ?_)
    refine ow_gx (e' := z143 + z144) (lo := 0) (hi := 18446744073709551615) (g_or rfl rfl) (or_join' 38 (m := 274877906944) r105 rfl r104 rfl rfl rfl rfl (eq_mod h94 (mul_mod_mod _ (by decide))) rfl rfl) (In.wk (or_in (k := .u64) rfl (or_join' 38 (m := 274877906944) r105 rfl r104 rfl rfl rfl rfl (eq_mod h94 (mul_mod_mod _ (by decide))) rfl rfl)) rfl) rfl (fun z145 h95 r106 => ?_)
    refine ow_g (g_ixa Try.underlying26 ty24 rfl rfl (by decide)) rfl ?_
    refine ow_g (g_ldb sc24 rfl hb2 rfl) rfl ?_
    refine ow_gx (e' := (hh2 2) / 67108864) (lo := 0) (hi := 33554431) (g_shrp (m := 67108864) rfl rfl (by decide) rfl) (rfl) (In.wk (in_div r8 (by decide)) rfl) rfl (fun z146 h96 r107 => ?_)
    refine ow_g (g_ixa Try.underlying26 ty24 rfl rfl (by decide)) rfl ?_
    refine ow_g (g_ldb sc24 rfl hb2 rfl) rfl ?_
    refine ow_gx (e' := ((hh2 3) * 33554432) % 18446744073709551616) (lo := 0) (hi := 18446744073709551615) (g_shlp (m := 33554432) rfl rfl (by decide) rfl) (wrap_uns rfl _) (In.wk (in_mod _ (by decide)) rfl) rfl (fun z147 h97 r108 => ?_)
    refine ow_gx (e' := z146 + z147) (lo := 0) (hi := 18446744073709551615) (g_or rfl rfl) (or_join' 25 (m := 33554432) r108 rfl r107 rfl rfl rfl rfl (eq_mod h97 (mul_mod_mod _ (by decide))) rfl rfl) (In.wk (or_in (k := .u64) rfl (or_join' 25 (m := 33554432) r108 rfl r107 rfl rfl rfl rfl (eq_mod h97 (mul_mod_mod _ (by decide))) rfl rfl)) rfl) rfl (fun z148 h98 r109 => ?_)
    refine ow_g (g_ixa Try.underlying26 ty24 rfl rfl (by decide)) rfl ?_
    refine ow_g (g_ldb sc24 rfl hb2 rfl) rfl ?_
    refine ow_gx (e' := (hh2 3) / 549755813888) (lo := 0) (hi := 4095) (g_shrp (m := 549755813888) rfl rfl (by decide) rfl) (rfl) (In.wk (in_div r9 (by decide)) rfl) rfl (fun z149 h99 r110 => ?_)
    refine ow_g (g_ixa Try.underlying26 ty24 rfl rfl (by decide)) rfl ?_
    refine ow_g (g_ldb sc24 rfl hb2 rfl) rfl ?_
    refine ow_gx (e' := (hh2 4) * 4096) (lo := 0) (hi := 9223372036854771712) (g_shlp (m := 4096) rfl rfl (by decide) rfl) (wrap_fit (in_mulc r10 (by decide)) rfl) (In.wk (in_mulc r10 (by decide)) rfl) rfl (fun z150 h100 r111 => ?_)
    refine ow_gx (e' := z149 + z150) (lo := 0) (hi := 9223372036854775807) (g_or rfl rfl) (or_join' 12 (m := 4096) r111 rfl r110 rfl rfl rfl rfl (eq_mod h100 (Int.mul_emod_left _ _)) rfl rfl) (In.wk (in_add r110 r111) rfl) rfl (fun z151 h101 r112 => ?_)
    refine ow_g (g_blda (idx := [0, 1, 2, 3]) (xs := [.tmp 49, .tmp 56, .tmp 63, .tmp 70]) (vs := [_, _, _, _]) (css := [[.int .u64 z142], [.int .u64 z145], [.int .u64 z148], [.int .u64 z151]]) (out := [.int .u64 z142, .int .u64 z145, .int .u64 z148, .int .u64 z151]) Try.underlying104 ty24 ty104 (arr_pls 4 1) rfl rfl ⟨rfl, rfl, rfl, rfl, trivial⟩ rfl rfl) rfl ?_
    refine ow_d (d_alloc ty104) rfl ?_
    rintro _ w57 ⟨b4, rfl, eb4, hb18, k57, z152⟩
    have ge_b4 : w.heap.size ≤ b4 := by have := hB.size; omega
    have ne_b1_b4 : b1 ≠ b4 := by have := hb2.lt; omega
    have ne_b2_b4 : b2 ≠ b4 := by have := hb13.lt; omega
    replace hb2 := hb2.keep0 k57
    replace hb13 := hb13.keep0 k57
    replace hB := hB.trans k57
    clear eb4 z152
    refine ow_d0 (d_sta ty104 rfl rfl rfl (by simp only [List.forall_mem_cons]; refine ⟨rfl, rfl, rfl, rfl, fun v hv => by cases hv⟩) hb18 rfl) ?_
    rintro _ w58 ⟨hb19, k58, z153⟩
    replace hb2 := hb2.keep k58 (fun hm => absurd (List.mem_singleton.1 hm) ne_b1_b4)
    replace hb13 := hb13.keep k58 (fun hm => absurd (List.mem_singleton.1 hm) ne_b2_b4)
    replace hB := hB.new k58 (fun x hx => .inl ((List.mem_singleton.1 hx) ▸ ge_b4))
    clear z153
    replace hb19 : Bk w58 b4 _ [.int .u64 z142, .int .u64 z145, .int .u64 z148, .int .u64 z151] := hb19
    refine ow_nil ?_
    refine tw_seq ?_
    refine tw_region ?_
    refine ow_d (d_mk Try.underlying22 ty5 rfl rfl (by omega) (by constructor <;> omega)) rfl ?_
    rintro v2 w59 ⟨o34, nn2, lb2, k59, z154⟩
    have go_v2 := fun x hx => (show w.heap.size ≤ x from by have h1 := (o34.blk x hx).1; have h2 := hB.size; omega)
    have gl_v2 := hB.size
    have gl_o34 := hB.size
    have sb_b1_o34 := fun x hx => (show x ≠ b1 from by have h1 := (o34.blk x hx).1; have h2 := hb2.lt; omega)
    have sb_b2_o34 := fun x hx => (show x ≠ b2 from by have h1 := (o34.blk x hx).1; have h2 := hb13.lt; omega)
    have sb_b4_o34 := fun x hx => (show x ≠ b4 from by have h1 := (o34.blk x hx).1; have h2 := hb19.lt; omega)
    replace hb2 := hb2.keep0 k59
    replace hb13 := hb13.keep0 k59
    replace hb19 := hb19.keep0 k59
    replace hB := hB.trans k59
    have u_o34 := o34.blk
    replace o34 : Own w59 _ 5 1 v2 32 [.int .u8 0, .int .u8 0, .int .u8 0, .int .u8 0, .int .u8 0, .int .u8 0, .int .u8 0, .int .u8 0, .int .u8 0, .int .u8 0, .int .u8 0, .int .u8 0, .int .u8 0, .int .u8 0, .int .u8 0, .int .u8 0, .int .u8 0, .int .u8 0, .int .u8 0, .int .u8 0, .int .u8 0, .int .u8 0, .int .u8 0, .int .u8 0, .int .u8 0, .int .u8 0, .int .u8 0, .int .u8 0, .int .u8 0, .int .u8 0, .int .u8 0, .int .u8 0] := o34
    refine ow_g (g_as rfl) rfl ?_
    refine ow_nil ?_
    refine tw_keep [(5, _), (6, _)] ⟨rfl, rfl, trivial⟩ ?_
    refine tw_seq ?_
    refine tw_seq ?_
    refine tw_region ?_
    refine ow_g (g_mv rfl) rfl ?_
    refine ow_g (g_len Try.underlying22 rfl (by first | assumption | exact Own.rd (by assumption) | exact Rd.keep0 (by assumption) hB | exact Own.rd (Own.keep0 (by assumption) hB))) rfl ?_
    refine ow_g (g_mv rfl) rfl ?_
    refine ow_nil ?_
    refine tw_keep [(5, _), (6, _), (74, _), (75, _)] ⟨rfl, rfl, rfl, rfl, trivial⟩ ?_
    refine tw_block ?_
    refine tw_unroll 32 ?_
    refine tw_seq ?_
    refine tw_region ?_
    refine ow_g (g_lt rfl rfl) rfl ?_
    refine ow_nil ?_
    refine tw_keep [(5, _), (6, _), (74, _), (75, _), (76, _)] ⟨rfl, rfl, rfl, rfl, rfl, trivial⟩ ?_
    refine tw_seq ?_
    refine tw_ifT rfl (by decide) ?_
    refine tw_skip ?_
    refine tw_seq ?_
    refine tw_block ?_
    refine tw_seq ?_
    refine tw_region ?_
    refine ow_g (g_mv rfl) rfl ?_
    refine ow_g (g_as rfl) rfl ?_
    refine ow_nil ?_
    refine tw_keep [(5, _), (6, _), (74, _), (75, _), (7, _)] ⟨rfl, rfl, rfl, rfl, rfl, trivial⟩ ?_
    refine tw_region ?_
    refine ow_g (g_mv rfl) rfl ?_
    refine ow_g (g_mv rfl) rfl ?_
    refine ow_g (g_mv rfl) rfl ?_
    refine ow_g (g_fold (j := 0) (g_quo rfl rfl (by decide)) (by decide)) rfl ?_
    refine ow_g (g_ixa Try.underlying104 ty24 rfl rfl (by decide)) rfl ?_
    refine ow_g (g_ldb sc24 rfl hb19 rfl) rfl ?_
    refine ow_g (g_mv rfl) rfl ?_
    refine ow_g (g_fold (j := 0) (g_rem rfl rfl (by decide)) (by decide)) rfl ?_
    refine ow_g (g_fold (j := 0) (g_mulw rfl rfl) (by decide)) rfl ?_
    refine ow_gx (e' := z142 / 1) (lo := 0) (hi := 18446744073709551615) (g_shrp (m := 1) rfl rfl (by decide) rfl) (rfl) (In.wk (in_div r103 (by decide)) rfl) rfl (fun z155 h102 r113 => ?_)
    refine ow_gx (e' := z155 % 256) (lo := 0) (hi := 255) (g_cv (by rw [Try.underlying24]; rfl) Try.underlying5 rfl) (wrap_uns rfl _) (In.wk (in_mod _ (by decide)) rfl) rfl (fun z156 h103 r114 => ?_)
    refine ow_g (g_ix Try.underlying22 ty5 rfl (by first | assumption | exact Own.rd (by assumption) | exact Rd.keep0 (by assumption) hB | exact Own.rd (Own.keep0 (by assumption) hB)) rfl (by omega)) rfl ?_
    refine ow_d0 (d_sto (u := .int .u8 z156) ty5 rfl rfl rfl o34 (blt_lt rfl)) ?_
    rintro _ w60 ⟨o35, k60, z157⟩
    have z_k60 := k60.size
    replace o35 : Own w60 _ 5 1 v2 32 [.int .u8 z156, .int .u8 0, .int .u8 0, .int .u8 0, .int .u8 0, .int .u8 0, .int .u8 0, .int .u8 0, .int .u8 0, .int .u8 0, .int .u8 0, .int .u8 0, .int .u8 0, .int .u8 0, .int .u8 0, .int .u8 0, .int .u8 0, .int .u8 0, .int .u8 0, .int .u8 0, .int .u8 0, .int .u8 0, .int .u8 0, .int .u8 0, .int .u8 0, .int .u8 0, .int .u8 0, .int .u8 0, .int .u8 0, .int .u8 0, .int .u8 0, .int .u8 0] := o35
    replace hb2 := hb2.keep k60 (fun hm => sb_b1_o34 _ hm rfl)
    replace hb13 := hb13.keep k60 (fun hm => sb_b2_o34 _ hm rfl)
    replace hb19 := hb19.keep k60 (fun hm => sb_b4_o34 _ hm rfl)
    replace hB := hB.new k60 (fun x hx => .inl (go_v2 x hx))
    clear z_k60 z157
    refine ow_nil ?_
    refine tw_keep [(5, _), (6, _), (74, _), (75, _)] ⟨rfl, rfl, rfl, rfl, trivial⟩ ?_
    refine tw_b ?_
    refine tw_region ?_
    refine ow_g (g_fold (j := 1) (g_addw rfl rfl) (by decide)) rfl ?_
    refine ow_g (g_mv rfl) rfl ?_
    refine ow_nil ?_
    refine tw_keep [(5, _), (6, _), (74, _), (75, _)] ⟨rfl, rfl, rfl, rfl, trivial⟩ ?_
    refine tw_lp ?_
    refine tw_seq ?_
    refine tw_region ?_
    refine ow_g (g_lt rfl rfl) rfl ?_
    refine ow_nil ?_
    refine tw_keep [(5, _), (6, _), (74, _), (75, _), (76, _)] ⟨rfl, rfl, rfl, rfl, rfl, trivial⟩ ?_
    refine tw_seq ?_
    refine tw_ifT rfl (by decide) ?_
    refine tw_skip ?_
    refine tw_seq ?_
    refine tw_block ?_
    refine tw_seq ?_
    refine tw_region ?_
    refine ow_g (g_mv rfl) rfl ?_
    refine ow_g (g_as rfl) rfl ?_
    refine ow_nil ?_
    refine tw_keep [(5, _), (6, _), (74, _), (75, _), (7, _)] ⟨rfl, rfl, rfl, rfl, rfl, trivial⟩ ?_
    refine tw_region ?_
    refine ow_g (g_mv rfl) rfl ?_
    refine ow_g (g_mv rfl) rfl ?_
    refine ow_g (g_mv rfl) rfl ?_
    refine ow_g (g_fold (j := 0) (g_quo rfl rfl (by decide)) (by decide)) rfl ?_
    refine ow_g (g_ixa Try.underlying104 ty24 rfl rfl (by decide)) rfl ?_
    refine ow_g (g_ldb sc24 rfl hb19 rfl) rfl ?_
    refine ow_g (g_mv rfl) rfl ?_
    refine ow_g (g_fold (j := 1) (g_rem rfl rfl (by decide)) (by decide)) rfl ?_
    refine ow_g (g_fold (j := 8) (g_mulw rfl rfl) (by decide)) rfl ?_
    refine ow_gx (e' := z142 / 256) (lo := 0) (hi := 72057594037927935) (g_shrp (m := 256) rfl rfl (by decide) rfl) (rfl) (In.wk (in_div r103 (by decide)) rfl) rfl (fun z158 h104 r115 => ?_)
    refine ow_gx (e' := z158 % 256) (lo := 0) (hi := 255) (g_cv (by rw [Try.underlying24]; rfl) Try.underlying5 rfl) (wrap_uns rfl _) (In.wk (in_mod _ (by decide)) rfl) rfl (fun z159 h105 r116 => ?_)
    refine ow_g (g_ix Try.underlying22 ty5 rfl (by first | assumption | exact Own.rd (by assumption) | exact Rd.keep0 (by assumption) hB | exact Own.rd (Own.keep0 (by assumption) hB)) rfl (by omega)) rfl ?_
    refine ow_d0 (d_sto (u := .int .u8 z159) ty5 rfl rfl rfl o35 (blt_lt rfl)) ?_
    rintro _ w61 ⟨o36, k61, z160⟩
    have z_k61 := k61.size
    replace o36 : Own w61 _ 5 1 v2 32 [.int .u8 z156, .int .u8 z159, .int .u8 0, .int .u8 0, .int .u8 0, .int .u8 0, .int .u8 0, .int .u8 0, .int .u8 0, .int .u8 0, .int .u8 0, .int .u8 0, .int .u8 0, .int .u8 0, .int .u8 0, .int .u8 0, .int .u8 0, .int .u8 0, .int .u8 0, .int .u8 0, .int .u8 0, .int .u8 0, .int .u8 0, .int .u8 0, .int .u8 0, .int .u8 0, .int .u8 0, .int .u8 0, .int .u8 0, .int .u8 0, .int .u8 0, .int .u8 0] := o36
    replace hb2 := hb2.keep k61 (fun hm => sb_b1_o34 _ hm rfl)
    replace hb13 := hb13.keep k61 (fun hm => sb_b2_o34 _ hm rfl)
    replace hb19 := hb19.keep k61 (fun hm => sb_b4_o34 _ hm rfl)
    replace hB := hB.new k61 (fun x hx => .inl (go_v2 x hx))
    clear z_k61 z160
    refine ow_nil ?_
    refine tw_keep [(5, _), (6, _), (74, _), (75, _)] ⟨rfl, rfl, rfl, rfl, trivial⟩ ?_
    refine tw_b ?_
    refine tw_region ?_
    refine ow_g (g_fold (j := 2) (g_addw rfl rfl) (by decide)) rfl ?_
    refine ow_g (g_mv rfl) rfl ?_
    refine ow_nil ?_
    refine tw_keep [(5, _), (6, _), (74, _), (75, _)] ⟨rfl, rfl, rfl, rfl, trivial⟩ ?_
    refine tw_lp ?_
    refine tw_seq ?_
    refine tw_region ?_
    refine ow_g (g_lt rfl rfl) rfl ?_
    refine ow_nil ?_
    refine tw_keep [(5, _), (6, _), (74, _), (75, _), (76, _)] ⟨rfl, rfl, rfl, rfl, rfl, trivial⟩ ?_
    refine tw_seq ?_
    refine tw_ifT rfl (by decide) ?_
    refine tw_skip ?_
    refine tw_seq ?_
    refine tw_block ?_
    refine tw_seq ?_
    refine tw_region ?_
    refine ow_g (g_mv rfl) rfl ?_
    refine ow_g (g_as rfl) rfl ?_
    refine ow_nil ?_
    refine tw_keep [(5, _), (6, _), (74, _), (75, _), (7, _)] ⟨rfl, rfl, rfl, rfl, rfl, trivial⟩ ?_
    refine tw_region ?_
    refine ow_g (g_mv rfl) rfl ?_
    refine ow_g (g_mv rfl) rfl ?_
    refine ow_g (g_mv rfl) rfl ?_
    refine ow_g (g_fold (j := 0) (g_quo rfl rfl (by decide)) (by decide)) rfl ?_
    refine ow_g (g_ixa Try.underlying104 ty24 rfl rfl (by decide)) rfl ?_
    refine ow_g (g_ldb sc24 rfl hb19 rfl) rfl ?_
    refine ow_g (g_mv rfl) rfl ?_
    refine ow_g (g_fold (j := 2) (g_rem rfl rfl (by decide)) (by decide)) rfl ?_
    refine ow_g (g_fold (j := 16) (g_mulw rfl rfl) (by decide)) rfl ?_
    refine ow_gx (e' := z142 / 65536) (lo := 0) (hi := 281474976710655) (g_shrp (m := 65536) rfl rfl (by decide) rfl) (rfl) (In.wk (in_div r103 (by decide)) rfl) rfl (fun z161 h106 r117 => ?_)
    refine ow_gx (e' := z161 % 256) (lo := 0) (hi := 255) (g_cv (by rw [Try.underlying24]; rfl) Try.underlying5 rfl) (wrap_uns rfl _) (In.wk (in_mod _ (by decide)) rfl) rfl (fun z162 h107 r118 => ?_)
    refine ow_g (g_ix Try.underlying22 ty5 rfl (by first | assumption | exact Own.rd (by assumption) | exact Rd.keep0 (by assumption) hB | exact Own.rd (Own.keep0 (by assumption) hB)) rfl (by omega)) rfl ?_
    refine ow_d0 (d_sto (u := .int .u8 z162) ty5 rfl rfl rfl o36 (blt_lt rfl)) ?_
    rintro _ w62 ⟨o37, k62, z163⟩
    have z_k62 := k62.size
    replace o37 : Own w62 _ 5 1 v2 32 [.int .u8 z156, .int .u8 z159, .int .u8 z162, .int .u8 0, .int .u8 0, .int .u8 0, .int .u8 0, .int .u8 0, .int .u8 0, .int .u8 0, .int .u8 0, .int .u8 0, .int .u8 0, .int .u8 0, .int .u8 0, .int .u8 0, .int .u8 0, .int .u8 0, .int .u8 0, .int .u8 0, .int .u8 0, .int .u8 0, .int .u8 0, .int .u8 0, .int .u8 0, .int .u8 0, .int .u8 0, .int .u8 0, .int .u8 0, .int .u8 0, .int .u8 0, .int .u8 0] := o37
    replace hb2 := hb2.keep k62 (fun hm => sb_b1_o34 _ hm rfl)
    replace hb13 := hb13.keep k62 (fun hm => sb_b2_o34 _ hm rfl)
    replace hb19 := hb19.keep k62 (fun hm => sb_b4_o34 _ hm rfl)
    replace hB := hB.new k62 (fun x hx => .inl (go_v2 x hx))
    clear z_k62 z163
    refine ow_nil ?_
    refine tw_keep [(5, _), (6, _), (74, _), (75, _)] ⟨rfl, rfl, rfl, rfl, trivial⟩ ?_
    refine tw_b ?_
    refine tw_region ?_
    refine ow_g (g_fold (j := 3) (g_addw rfl rfl) (by decide)) rfl ?_
    refine ow_g (g_mv rfl) rfl ?_
    refine ow_nil ?_
    refine tw_keep [(5, _), (6, _), (74, _), (75, _)] ⟨rfl, rfl, rfl, rfl, trivial⟩ ?_
    refine tw_lp ?_
    refine tw_seq ?_
    refine tw_region ?_
    refine ow_g (g_lt rfl rfl) rfl ?_
    refine ow_nil ?_
    refine tw_keep [(5, _), (6, _), (74, _), (75, _), (76, _)] ⟨rfl, rfl, rfl, rfl, rfl, trivial⟩ ?_
    refine tw_seq ?_
    refine tw_ifT rfl (by decide) ?_
    refine tw_skip ?_
    refine tw_seq ?_
    refine tw_block ?_
    refine tw_seq ?_
    refine tw_region ?_
    refine ow_g (g_mv rfl) rfl ?_
    refine ow_g (g_as rfl) rfl ?_
    refine ow_nil ?_
    refine tw_keep [(5, _), (6, _), (74, _), (75, _), (7, _)] ⟨rfl, rfl, rfl, rfl, rfl, trivial⟩ ?_
    refine tw_region ?_
    refine ow_g (g_mv rfl) rfl ?_
    refine ow_g (g_mv rfl) rfl ?_
    refine ow_g (g_mv rfl) rfl ?_
    refine ow_g (g_fold (j := 0) (g_quo rfl rfl (by decide)) (by decide)) rfl ?_
    refine ow_g (g_ixa Try.underlying104 ty24 rfl rfl (by decide)) rfl ?_
    refine ow_g (g_ldb sc24 rfl hb19 rfl) rfl ?_
    refine ow_g (g_mv rfl) rfl ?_
    refine ow_g (g_fold (j := 3) (g_rem rfl rfl (by decide)) (by decide)) rfl ?_
    refine ow_g (g_fold (j := 24) (g_mulw rfl rfl) (by decide)) rfl ?_
    refine ow_gx (e' := z142 / 16777216) (lo := 0) (hi := 1099511627775) (g_shrp (m := 16777216) rfl rfl (by decide) rfl) (rfl) (In.wk (in_div r103 (by decide)) rfl) rfl (fun z164 h108 r119 => ?_)
    refine ow_gx (e' := z164 % 256) (lo := 0) (hi := 255) (g_cv (by rw [Try.underlying24]; rfl) Try.underlying5 rfl) (wrap_uns rfl _) (In.wk (in_mod _ (by decide)) rfl) rfl (fun z165 h109 r120 => ?_)
    refine ow_g (g_ix Try.underlying22 ty5 rfl (by first | assumption | exact Own.rd (by assumption) | exact Rd.keep0 (by assumption) hB | exact Own.rd (Own.keep0 (by assumption) hB)) rfl (by omega)) rfl ?_
    refine ow_d0 (d_sto (u := .int .u8 z165) ty5 rfl rfl rfl o37 (blt_lt rfl)) ?_
    rintro _ w63 ⟨o38, k63, z166⟩
    have z_k63 := k63.size
    replace o38 : Own w63 _ 5 1 v2 32 [.int .u8 z156, .int .u8 z159, .int .u8 z162, .int .u8 z165, .int .u8 0, .int .u8 0, .int .u8 0, .int .u8 0, .int .u8 0, .int .u8 0, .int .u8 0, .int .u8 0, .int .u8 0, .int .u8 0, .int .u8 0, .int .u8 0, .int .u8 0, .int .u8 0, .int .u8 0, .int .u8 0, .int .u8 0, .int .u8 0, .int .u8 0, .int .u8 0, .int .u8 0, .int .u8 0, .int .u8 0, .int .u8 0, .int .u8 0, .int .u8 0, .int .u8 0, .int .u8 0] := o38
    replace hb2 := hb2.keep k63 (fun hm => sb_b1_o34 _ hm rfl)
    replace hb13 := hb13.keep k63 (fun hm => sb_b2_o34 _ hm rfl)
    replace hb19 := hb19.keep k63 (fun hm => sb_b4_o34 _ hm rfl)
    replace hB := hB.new k63 (fun x hx => .inl (go_v2 x hx))
    clear z_k63 z166
    refine ow_nil ?_
    refine tw_keep [(5, _), (6, _), (74, _), (75, _)] ⟨rfl, rfl, rfl, rfl, trivial⟩ ?_
    refine tw_b ?_
    refine tw_region ?_
    refine ow_g (g_fold (j := 4) (g_addw rfl rfl) (by decide)) rfl ?_
    refine ow_g (g_mv rfl) rfl ?_
    refine ow_nil ?_
    refine tw_keep [(5, _), (6, _), (74, _), (75, _)] ⟨rfl, rfl, rfl, rfl, trivial⟩ ?_
    refine tw_lp ?_
    refine tw_seq ?_
    refine tw_region ?_
    refine ow_g (g_lt rfl rfl) rfl ?_
    refine ow_nil ?_
    refine tw_keep [(5, _), (6, _), (74, _), (75, _), (76, _)] ⟨rfl, rfl, rfl, rfl, rfl, trivial⟩ ?_
    refine tw_seq ?_
    refine tw_ifT rfl (by decide) ?_
    refine tw_skip ?_
    refine tw_seq ?_
    refine tw_block ?_
    refine tw_seq ?_
    refine tw_region ?_
    refine ow_g (g_mv rfl) rfl ?_
    refine ow_g (g_as rfl) rfl ?_
    refine ow_nil ?_
    refine tw_keep [(5, _), (6, _), (74, _), (75, _), (7, _)] ⟨rfl, rfl, rfl, rfl, rfl, trivial⟩ ?_
    refine tw_region ?_
    refine ow_g (g_mv rfl) rfl ?_
    refine ow_g (g_mv rfl) rfl ?_
    refine ow_g (g_mv rfl) rfl ?_
    refine ow_g (g_fold (j := 0) (g_quo rfl rfl (by decide)) (by decide)) rfl ?_
    refine ow_g (g_ixa Try.underlying104 ty24 rfl rfl (by decide)) rfl ?_
    refine ow_g (g_ldb sc24 rfl hb19 rfl) rfl ?_
    refine ow_g (g_mv rfl) rfl ?_
    refine ow_g (g_fold (j := 4) (g_rem rfl rfl (by decide)) (by decide)) rfl ?_
    refine ow_g (g_fold (j := 32) (g_mulw rfl rfl) (by decide)) rfl ?_
    refine ow_gx (e' := z142 / 4294967296) (lo := 0) (hi := 4294967295) (g_shrp (m := 4294967296) rfl rfl (by decide) rfl) (rfl) (In.wk (in_div r103 (by decide)) rfl) rfl (fun z167 h110 r121 => ?_)
    refine ow_gx (e' := z167 % 256) (lo := 0) (hi := 255) (g_cv (by rw [Try.underlying24]; rfl) Try.underlying5 rfl) (wrap_uns rfl _) (In.wk (in_mod _ (by decide)) rfl) rfl (fun z168 h111 r122 => ?_)
    refine ow_g (g_ix Try.underlying22 ty5 rfl (by first | assumption | exact Own.rd (by assumption) | exact Rd.keep0 (by assumption) hB | exact Own.rd (Own.keep0 (by assumption) hB)) rfl (by omega)) rfl ?_
    refine ow_d0 (d_sto (u := .int .u8 z168) ty5 rfl rfl rfl o38 (blt_lt rfl)) ?_
    rintro _ w64 ⟨o39, k64, z169⟩
    have z_k64 := k64.size
    replace o39 : Own w64 _ 5 1 v2 32 [.int .u8 z156, .int .u8 z159, .int .u8 z162, .int .u8 z165, .int .u8 z168, .int .u8 0, .int .u8 0, .int .u8 0, .int .u8 0, .int .u8 0, .int .u8 0, .int .u8 0, .int .u8 0, .int .u8 0, .int .u8 0, .int .u8 0, .int .u8 0, .int .u8 0, .int .u8 0, .int .u8 0, .int .u8 0, .int .u8 0, .int .u8 0, .int .u8 0, .int .u8 0, .int .u8 0, .int .u8 0, .int .u8 0, .int .u8 0, .int .u8 0, .int .u8 0, .int .u8 0] := o39
    replace hb2 := hb2.keep k64 (fun hm => sb_b1_o34 _ hm rfl)
    replace hb13 := hb13.keep k64 (fun hm => sb_b2_o34 _ hm rfl)
    replace hb19 := hb19.keep k64 (fun hm => sb_b4_o34 _ hm rfl)
    replace hB := hB.new k64 (fun x hx => .inl (go_v2 x hx))
    clear z_k64 z169
    refine ow_nil ?_
    refine tw_keep [(5, _), (6, _), (74, _), (75, _)] ⟨rfl, rfl, rfl, rfl, trivial⟩ ?_
    refine tw_b ?_
    refine tw_region ?_
    refine ow_g (g_fold (j := 5) (g_addw rfl rfl) (by decide)) rfl ?_
    refine ow_g (g_mv rfl) rfl ?_
    refine ow_nil ?_
    refine tw_keep [(5, _), (6, _), (74, _), (75, _)] ⟨rfl, rfl, rfl, rfl, trivial⟩ ?_
    refine tw_lp ?_
    refine tw_seq ?_
    refine tw_region ?_
    refine ow_g (g_lt rfl rfl) rfl ?_
    refine ow_nil ?_
    refine tw_keep [(5, _), (6, _), (74, _), (75, _), (76, _)] ⟨rfl, rfl, rfl, rfl, rfl, trivial⟩ ?_
    refine tw_seq ?_
    refine tw_ifT rfl (by decide) ?_
    refine tw_skip ?_
    refine tw_seq ?_
    refine tw_block ?_
    refine tw_seq ?_
    refine tw_region ?_
    refine ow_g (g_mv rfl) rfl ?_
    refine ow_g (g_as rfl) rfl ?_
    refine ow_nil ?_
    refine tw_keep [(5, _), (6, _), (74, _), (75, _), (7, _)] ⟨rfl, rfl, rfl, rfl, rfl, trivial⟩ ?_
    refine tw_region ?_
    refine ow_g (g_mv rfl) rfl ?_
    refine ow_g (g_mv rfl) rfl ?_
    refine ow_g (g_mv rfl) rfl ?_
    refine ow_g (g_fold (j := 0) (g_quo rfl rfl (by decide)) (by decide)) rfl ?_
    refine ow_g (g_ixa Try.underlying104 ty24 rfl rfl (by decide)) rfl ?_
    refine ow_g (g_ldb sc24 rfl hb19 rfl) rfl ?_
    refine ow_g (g_mv rfl) rfl ?_
    refine ow_g (g_fold (j := 5) (g_rem rfl rfl (by decide)) (by decide)) rfl ?_
    refine ow_g (g_fold (j := 40) (g_mulw rfl rfl) (by decide)) rfl ?_
    refine ow_gx (e' := z142 / 1099511627776) (lo := 0) (hi := 16777215) (g_shrp (m := 1099511627776) rfl rfl (by decide) rfl) (rfl) (In.wk (in_div r103 (by decide)) rfl) rfl (fun z170 h112 r123 => ?_)
    refine ow_gx (e' := z170 % 256) (lo := 0) (hi := 255) (g_cv (by rw [Try.underlying24]; rfl) Try.underlying5 rfl) (wrap_uns rfl _) (In.wk (in_mod _ (by decide)) rfl) rfl (fun z171 h113 r124 => ?_)
    refine ow_g (g_ix Try.underlying22 ty5 rfl (by first | assumption | exact Own.rd (by assumption) | exact Rd.keep0 (by assumption) hB | exact Own.rd (Own.keep0 (by assumption) hB)) rfl (by omega)) rfl ?_
    refine ow_d0 (d_sto (u := .int .u8 z171) ty5 rfl rfl rfl o39 (blt_lt rfl)) ?_
    rintro _ w65 ⟨o40, k65, z172⟩
    have z_k65 := k65.size
    replace o40 : Own w65 _ 5 1 v2 32 [.int .u8 z156, .int .u8 z159, .int .u8 z162, .int .u8 z165, .int .u8 z168, .int .u8 z171, .int .u8 0, .int .u8 0, .int .u8 0, .int .u8 0, .int .u8 0, .int .u8 0, .int .u8 0, .int .u8 0, .int .u8 0, .int .u8 0, .int .u8 0, .int .u8 0, .int .u8 0, .int .u8 0, .int .u8 0, .int .u8 0, .int .u8 0, .int .u8 0, .int .u8 0, .int .u8 0, .int .u8 0, .int .u8 0, .int .u8 0, .int .u8 0, .int .u8 0, .int .u8 0] := o40
    replace hb2 := hb2.keep k65 (fun hm => sb_b1_o34 _ hm rfl)
    replace hb13 := hb13.keep k65 (fun hm => sb_b2_o34 _ hm rfl)
    replace hb19 := hb19.keep k65 (fun hm => sb_b4_o34 _ hm rfl)
    replace hB := hB.new k65 (fun x hx => .inl (go_v2 x hx))
    clear z_k65 z172
    refine ow_nil ?_
    refine tw_keep [(5, _), (6, _), (74, _), (75, _)] ⟨rfl, rfl, rfl, rfl, trivial⟩ ?_
    refine tw_b ?_
    refine tw_region ?_
    refine ow_g (g_fold (j := 6) (g_addw rfl rfl) (by decide)) rfl ?_
    refine ow_g (g_mv rfl) rfl ?_
    refine ow_nil ?_
    refine tw_keep [(5, _), (6, _), (74, _), (75, _)] ⟨rfl, rfl, rfl, rfl, trivial⟩ ?_
    refine tw_lp ?_
    refine tw_seq ?_
    refine tw_region ?_
    refine ow_g (g_lt rfl rfl) rfl ?_
    refine ow_nil ?_
    refine tw_keep [(5, _), (6, _), (74, _), (75, _), (76, _)] ⟨rfl, rfl, rfl, rfl, rfl, trivial⟩ ?_
    refine tw_seq ?_
    refine tw_ifT rfl (by decide) ?_
    refine tw_skip ?_
    refine tw_seq ?_
    refine tw_block ?_
    refine tw_seq ?_
    refine tw_region ?_
    refine ow_g (g_mv rfl) rfl ?_
    refine ow_g (g_as rfl) rfl ?_
    refine ow_nil ?_
    refine tw_keep [(5, _), (6, _), (74, _), (75, _), (7, _)] ⟨rfl, rfl, rfl, rfl, rfl, trivial⟩ ?_
    refine tw_region ?_
    refine ow_g (g_mv rfl) rfl ?_
    refine ow_g (g_mv rfl) rfl ?_
    refine ow_g (g_mv rfl) rfl ?_
    refine ow_g (g_fold (j := 0) (g_quo rfl rfl (by decide)) (by decide)) rfl ?_
    refine ow_g (g_ixa Try.underlying104 ty24 rfl rfl (by decide)) rfl ?_
    refine ow_g (g_ldb sc24 rfl hb19 rfl) rfl ?_
    refine ow_g (g_mv rfl) rfl ?_
    refine ow_g (g_fold (j := 6) (g_rem rfl rfl (by decide)) (by decide)) rfl ?_
    refine ow_g (g_fold (j := 48) (g_mulw rfl rfl) (by decide)) rfl ?_
    refine ow_gx (e' := z142 / 281474976710656) (lo := 0) (hi := 65535) (g_shrp (m := 281474976710656) rfl rfl (by decide) rfl) (rfl) (In.wk (in_div r103 (by decide)) rfl) rfl (fun z173 h114 r125 => ?_)
    refine ow_gx (e' := z173 % 256) (lo := 0) (hi := 255) (g_cv (by rw [Try.underlying24]; rfl) Try.underlying5 rfl) (wrap_uns rfl _) (In.wk (in_mod _ (by decide)) rfl) rfl (fun z174 h115 r126 => ?_)
    refine ow_g (g_ix Try.underlying22 ty5 rfl (by first | assumption | exact Own.rd (by assumption) | exact Rd.keep0 (by assumption) hB | exact Own.rd (Own.keep0 (by assumption) hB)) rfl (by omega)) rfl ?_
    refine ow_d0 (d_sto (u := .int .u8 z174) ty5 rfl rfl rfl o40 (blt_lt rfl)) ?_
    rintro _ w66 ⟨o41, k66, z175⟩
    have z_k66 := k66.size
    replace o41 : Own w66 _ 5 1 v2 32 [.int .u8 z156, .int .u8 z159, .int .u8 z162, .int .u8 z165, .int .u8 z168, .int .u8 z171, .int .u8 z174, .int .u8 0, .int .u8 0, .int .u8 0, .int .u8 0, .int .u8 0, .int .u8 0, .int .u8 0, .int .u8 0, .int .u8 0, .int .u8 0, .int .u8 0, .int .u8 0, .int .u8 0, .int .u8 0, .int .u8 0, .int .u8 0, .int .u8 0, .int .u8 0, .int .u8 0, .int .u8 0, .int .u8 0, .int .u8 0, .int .u8 0, .int .u8 0, .int .u8 0] := o41
    replace hb2 := hb2.keep k66 (fun hm => sb_b1_o34 _ hm rfl)
    replace hb13 := hb13.keep k66 (fun hm => sb_b2_o34 _ hm rfl)
    replace hb19 := hb19.keep k66 (fun hm => sb_b4_o34 _ hm rfl)
    replace hB := hB.new k66 (fun x hx => .inl (go_v2 x hx))
    clear z_k66 z175
    refine ow_nil ?_
    refine tw_keep [(5, _), (6, _), (74, _), (75, _)] ⟨rfl, rfl, rfl, rfl, trivial⟩ ?_
    refine tw_b ?_
    refine tw_region ?_
    refine ow_g (g_fold (j := 7) (g_addw rfl rfl) (by decide)) rfl ?_
    refine ow_g (g_mv rfl) rfl ?_
    refine ow_nil ?_
    refine tw_keep [(5, _), (6, _), (74, _), (75, _)] ⟨rfl, rfl, rfl, rfl, trivial⟩ ?_
    refine tw_lp ?_
    refine tw_seq ?_
    refine tw_region ?_
    refine ow_g (g_lt rfl rfl) rfl ?_
    refine ow_nil ?_
    refine tw_keep [(5, _), (6, _), (74, _), (75, _), (76, _)] ⟨rfl, rfl, rfl, rfl, rfl, trivial⟩ ?_
    refine tw_seq ?_
    refine tw_ifT rfl (by decide) ?_
    refine tw_skip ?_
    refine tw_seq ?_
    refine tw_block ?_
    refine tw_seq ?_
    refine tw_region ?_
    refine ow_g (g_mv rfl) rfl ?_
    refine ow_g (g_as rfl) rfl ?_
    refine ow_nil ?_
    refine tw_keep [(5, _), (6, _), (74, _), (75, _), (7, _)] ⟨rfl, rfl, rfl, rfl, rfl, trivial⟩ ?_
    refine tw_region ?_
    refine ow_g (g_mv rfl) rfl ?_
    refine ow_g (g_mv rfl) rfl ?_
    refine ow_g (g_mv rfl) rfl ?_
    refine ow_g (g_fold (j := 0) (g_quo rfl rfl (by decide)) (by decide)) rfl ?_
    refine ow_g (g_ixa Try.underlying104 ty24 rfl rfl (by decide)) rfl ?_
    refine ow_g (g_ldb sc24 rfl hb19 rfl) rfl ?_
    refine ow_g (g_mv rfl) rfl ?_
    refine ow_g (g_fold (j := 7) (g_rem rfl rfl (by decide)) (by decide)) rfl ?_
    refine ow_g (g_fold (j := 56) (g_mulw rfl rfl) (by decide)) rfl ?_
    refine ow_gx (e' := z142 / 72057594037927936) (lo := 0) (hi := 255) (g_shrp (m := 72057594037927936) rfl rfl (by decide) rfl) (rfl) (In.wk (in_div r103 (by decide)) rfl) rfl (fun z176 h116 r127 => ?_)
    refine ow_gx (e' := z176) (lo := 0) (hi := 255) (g_cv (by rw [Try.underlying24]; rfl) Try.underlying5 rfl) (wrap_fit r127 rfl) (r127) rfl (fun z177 h117 r128 => ?_)
    refine ow_g (g_ix Try.underlying22 ty5 rfl (by first | assumption | exact Own.rd (by assumption) | exact Rd.keep0 (by assumption) hB | exact Own.rd (Own.keep0 (by assumption) hB)) rfl (by omega)) rfl ?_
    refine ow_d0 (d_sto (u := .int .u8 z177) ty5 rfl rfl rfl o41 (blt_lt rfl)) ?_
    rintro _ w67 ⟨o42, k67, z178⟩
    have z_k67 := k67.size
    replace o42 : Own w67 _ 5 1 v2 32 [.int .u8 z156, .int .u8 z159, .int .u8 z162, .int .u8 z165, .int .u8 z168, .int .u8 z171, .int .u8 z174, .int .u8 z177, .int .u8 0, .int .u8 0, .int .u8 0, .int .u8 0, .int .u8 0, .int .u8 0, .int .u8 0, .int .u8 0, .int .u8 0, .int .u8 0, .int .u8 0, .int .u8 0, .int .u8 0, .int .u8 0, .int .u8 0, .int .u8 0, .int .u8 0, .int .u8 0, .int .u8 0, .int .u8 0, .int .u8 0, .int .u8 0, .int .u8 0, .int .u8 0] := o42
    replace hb2 := hb2.keep k67 (fun hm => sb_b1_o34 _ hm rfl)
    replace hb13 := hb13.keep k67 (fun hm => sb_b2_o34 _ hm rfl)
    replace hb19 := hb19.keep k67 (fun hm => sb_b4_o34 _ hm rfl)
    replace hB := hB.new k67 (fun x hx => .inl (go_v2 x hx))
    clear z_k67 z178
    refine ow_nil ?_
    refine tw_keep [(5, _), (6, _), (74, _), (75, _)] ⟨rfl, rfl, rfl, rfl, trivial⟩ ?_
    refine tw_b ?_
    refine tw_region ?_
    refine ow_g (g_fold (j := 8) (g_addw rfl rfl) (by decide)) rfl ?_
    refine ow_g (g_mv rfl) rfl ?_
    refine ow_nil ?_
    refine tw_keep [(5, _), (6, _), (74, _), (75, _)] ⟨rfl, rfl, rfl, rfl, trivial⟩ ?_
    refine tw_lp ?_
    refine tw_seq ?_
    refine tw_region ?_
    refine ow_g (g_lt rfl rfl) rfl ?_
    refine ow_nil ?_
    refine tw_keep [(5, _), (6, _), (74, _), (75, _), (76, _)] ⟨rfl, rfl, rfl, rfl, rfl, trivial⟩ ?_
    refine tw_seq ?_
    refine tw_ifT rfl (by decide) ?_
    refine tw_skip ?_
    refine tw_seq ?_
    refine tw_block ?_
    refine tw_seq ?_
    refine tw_region ?_
    refine ow_g (g_mv rfl) rfl ?_
    refine ow_g (g_as rfl) rfl ?_
    refine ow_nil ?_
    refine tw_keep [(5, _), (6, _), (74, _), (75, _), (7, _)] ⟨rfl, rfl, rfl, rfl, rfl, trivial⟩ ?_
    refine tw_region ?_
    refine ow_g (g_mv rfl) rfl ?_
    refine ow_g (g_mv rfl) rfl ?_
    refine ow_g (g_mv rfl) rfl ?_
    refine ow_g (g_fold (j := 1) (g_quo rfl rfl (by decide)) (by decide)) rfl ?_
    refine ow_g (g_ixa Try.underlying104 ty24 rfl rfl (by decide)) rfl ?_
    refine ow_g (g_ldb sc24 rfl hb19 rfl) rfl ?_
    refine ow_g (g_mv rfl) rfl ?_
    refine ow_g (g_fold (j := 0) (g_rem rfl rfl (by decide)) (by decide)) rfl ?_
    refine ow_g (g_fold (j := 0) (g_mulw rfl rfl) (by decide)) rfl ?_
    refine ow_gx (e' := z145 / 1) (lo := 0) (hi := 18446744073709551615) (g_shrp (m := 1) rfl rfl (by decide) rfl) (rfl) (In.wk (in_div r106 (by decide)) rfl) rfl (fun z179 h118 r129 => ?_)
    refine ow_gx (e' := z179 % 256) (lo := 0) (hi := 255) (g_cv (by rw [Try.underlying24]; rfl) Try.underlying5 rfl) (wrap_uns rfl _) (In.wk (in_mod _ (by decide)) rfl) rfl (fun z180 h119 r130 => ?_)
    refine ow_g (g_ix Try.underlying22 ty5 rfl (by first | assumption | exact Own.rd (by assumption) | exact Rd.keep0 (by assumption) hB | exact Own.rd (Own.keep0 (by assumption) hB)) rfl (by omega)) rfl ?_
    refine ow_d0 (d_sto (u := .int .u8 z180) ty5 rfl rfl rfl o42 (blt_lt rfl)) ?_
    rintro _ w68 ⟨o43, k68, z181⟩
    have z_k68 := k68.size
    replace o43 : Own w68 _ 5 1 v2 32 [.int .u8 z156, .int .u8 z159, .int .u8 z162, .int .u8 z165, .int .u8 z168, .int .u8 z171, .int .u8 z174, .int .u8 z177, .int .u8 z180, .int .u8 0, .int .u8 0, .int .u8 0, .int .u8 0, .int .u8 0, .int .u8 0, .int .u8 0, .int .u8 0, .int .u8 0, .int .u8 0, .int .u8 0, .int .u8 0, .int .u8 0, .int .u8 0, .int .u8 0, .int .u8 0, .int .u8 0, .int .u8 0, .int .u8 0, .int .u8 0, .int .u8 0, .int .u8 0, .int .u8 0] := o43
    replace hb2 := hb2.keep k68 (fun hm => sb_b1_o34 _ hm rfl)
    replace hb13 := hb13.keep k68 (fun hm => sb_b2_o34 _ hm rfl)
    replace hb19 := hb19.keep k68 (fun hm => sb_b4_o34 _ hm rfl)
    replace hB := hB.new k68 (fun x hx => .inl (go_v2 x hx))
    clear z_k68 z181
    refine ow_nil ?_
    refine tw_keep [(5, _), (6, _), (74, _), (75, _)] ⟨rfl, rfl, rfl, rfl, trivial⟩ ?_
    refine tw_b ?_
    refine tw_region ?_
    refine ow_g (g_fold (j := 9) (g_addw rfl rfl) (by decide)) rfl ?_
    refine ow_g (g_mv rfl) rfl ?_
    refine ow_nil ?_
    refine tw_keep [(5, _), (6, _), (74, _), (75, _)] ⟨rfl, rfl, rfl, rfl, trivial⟩ ?_
    refine tw_lp ?_
    refine tw_seq ?_
    refine tw_region ?_
    refine ow_g (g_lt rfl rfl) rfl ?_
    refine ow_nil ?_
    refine tw_keep [(5, _), (6, _), (74, _), (75, _), (76, _)] ⟨rfl, rfl, rfl, rfl, rfl, trivial⟩ ?_
    refine tw_seq ?_
    refine tw_ifT rfl (by decide) ?_
    refine tw_skip ?_
    refine tw_seq ?_
    refine tw_block ?_
    refine tw_seq ?_
    refine tw_region ?_
    refine ow_g (g_mv rfl) rfl ?_
    refine ow_g (g_as rfl) rfl ?_
    refine ow_nil ?_
    refine tw_keep [(5, _), (6, _), (74, _), (75, _), (7, _)] ⟨rfl, rfl, rfl, rfl, rfl, trivial⟩ ?_
    refine tw_region ?_
    refine ow_g (g_mv rfl) rfl ?_
    refine ow_g (g_mv rfl) rfl ?_
    refine ow_g (g_mv rfl) rfl ?_
    refine ow_g (g_fold (j := 1) (g_quo rfl rfl (by decide)) (by decide)) rfl ?_
    refine ow_g (g_ixa Try.underlying104 ty24 rfl rfl (by decide)) rfl ?_
    refine ow_g (g_ldb sc24 rfl hb19 rfl) rfl ?_
    refine ow_g (g_mv rfl) rfl ?_
    refine ow_g (g_fold (j := 1) (g_rem rfl rfl (by decide)) (by decide)) rfl ?_
    refine ow_g (g_fold (j := 8) (g_mulw rfl rfl) (by decide)) rfl ?_
    refine ow_gx (e' := z145 / 256) (lo := 0) (hi := 72057594037927935) (g_shrp (m := 256) rfl rfl (by decide) rfl) (rfl) (In.wk (in_div r106 (by decide)) rfl) rfl (fun z182 h120 r131 => ?_)
    refine ow_gx (e' := z182 % 256) (lo := 0) (hi := 255) (g_cv (by rw [Try.underlying24]; rfl) Try.underlying5 rfl) (wrap_uns rfl _) (In.wk (in_mod _ (by decide)) rfl) rfl (fun z183 h121 r132 => ?_)
    refine ow_g (g_ix Try.underlying22 ty5 rfl (by first | assumption | exact Own.rd (by assumption) | exact Rd.keep0 (by assumption) hB | exact Own.rd (Own.keep0 (by assumption) hB)) rfl (by omega)) rfl ?_
    refine ow_d0 (d_sto (u := .int .u8 z183) ty5 rfl rfl rfl o43 (blt_lt rfl)) ?_
    rintro _ w69 ⟨o44, k69, z184⟩
    have z_k69 := k69.size
    replace o44 : Own w69 _ 5 1 v2 32 [.int .u8 z156, .int .u8 z159, .int .u8 z162, .int .u8 z165, .int .u8 z168, .int .u8 z171, .int .u8 z174, .int .u8 z177, .int .u8 z180, .int .u8 z183, .int .u8 0, .int .u8 0, .int .u8 0, .int .u8 0, .int .u8 0, .int .u8 0, .int .u8 0, .int .u8 0, .int .u8 0, .int .u8 0, .int .u8 0, .int .u8 0, .int .u8 0, .int .u8 0, .int .u8 0, .int .u8 0, .int .u8 0, .int .u8 0, .int .u8 0, .int .u8 0, .int .u8 0, .int .u8 0] := o44
    replace hb2 := hb2.keep k69 (fun hm => sb_b1_o34 _ hm rfl)
    replace hb13 := hb13.keep k69 (fun hm => sb_b2_o34 _ hm rfl)
    replace hb19 := hb19.keep k69 (fun hm => sb_b4_o34 _ hm rfl)
    replace hB := hB.new k69 (fun x hx => .inl (go_v2 x hx))
    clear z_k69 z184
    refine ow_nil ?_
    refine tw_keep [(5, _), (6, _), (74, _), (75, _)] ⟨rfl, rfl, rfl, rfl, trivial⟩ ?_
    refine tw_b ?_
    refine tw_region ?_
    refine ow_g (g_fold (j := 10) (g_addw rfl rfl) (by decide)) rfl ?_
    refine ow_g (g_mv rfl) rfl ?_
    refine ow_nil ?_
    refine tw_keep [(5, _), (6, _), (74, _), (75, _)] ⟨rfl, rfl, rfl, rfl, trivial⟩ ?_
    refine tw_lp ?_
    refine tw_seq ?_
    refine tw_region ?_
    refine ow_g (g_lt rfl rfl) rfl ?_
    refine ow_nil ?_
    refine tw_keep [(5, _), (6, _), (74, _), (75, _), (76, _)] ⟨rfl, rfl, rfl, rfl, rfl, trivial⟩ ?_
    refine tw_seq ?_
    refine tw_ifT rfl (by decide) ?_
    refine tw_skip ?_
    refine tw_seq ?_
    refine tw_block ?_
    refine tw_seq ?_
    refine tw_region ?_
    refine ow_g (g_mv rfl) rfl ?_
    refine ow_g (g_as rfl) rfl ?_
    refine ow_nil ?_
    refine tw_keep [(5, _), (6, _), (74, _), (75, _), (7, _)] ⟨rfl, rfl, rfl, rfl, rfl, trivial⟩ ?_
    refine tw_region ?_
    refine ow_g (g_mv rfl) rfl ?_
    refine ow_g (g_mv rfl) rfl ?_
    refine ow_g (g_mv rfl) rfl ?_
    refine ow_g (g_fold (j := 1) (g_quo rfl rfl (by decide)) (by decide)) rfl ?_
    refine ow_g (g_ixa Try.underlying104 ty24 rfl rfl (by decide)) rfl ?_
    refine ow_g (g_ldb sc24 rfl hb19 rfl) rfl ?_
    refine ow_g (g_mv rfl) rfl ?_
    refine ow_g (g_fold (j := 2) (g_rem rfl rfl (by decide)) (by decide)) rfl ?_
    refine ow_g (g_fold (j := 16) (g_mulw rfl rfl) (by decide)) rfl ?_
    refine ow_gx (e' := z145 / 65536) (lo := 0) (hi := 281474976710655) (g_shrp (m := 65536) rfl rfl (by decide) rfl) (rfl) (In.wk (in_div r106 (by decide)) rfl) rfl (fun z185 h122 r133 => ?_)
    refine ow_gx (e' := z185 % 256) (lo := 0) (hi := 255) (g_cv (by rw [Try.underlying24]; rfl) Try.underlying5 rfl) (wrap_uns rfl _) (In.wk (in_mod _ (by decide)) rfl) rfl (fun z186 h123 r134 => ?_)
    refine ow_g (g_ix Try.underlying22 ty5 rfl (by first | assumption | exact Own.rd (by assumption) | exact Rd.keep0 (by assumption) hB | exact Own.rd (Own.keep0 (by assumption) hB)) rfl (by omega)) rfl ?_
    refine ow_d0 (d_sto (u := .int .u8 z186) ty5 rfl rfl rfl o44 (blt_lt rfl)) ?_
    rintro _ w70 ⟨o45, k70, z187⟩
    have z_k70 := k70.size
    replace o45 : Own w70 _ 5 1 v2 32 [.int .u8 z156, .int .u8 z159, .int .u8 z162, .int .u8 z165, .int .u8 z168, .int .u8 z171, .int .u8 z174, .int .u8 z177, .int .u8 z180, .int .u8 z183, .int .u8 z186, .int .u8 0, .int .u8 0, .int .u8 0, .int .u8 0, .int .u8 0, .int .u8 0, .int .u8 0, .int .u8 0, .int .u8 0, .int .u8 0, .int .u8 0, .int .u8 0, .int .u8 0, .int .u8 0, .int .u8 0, .int .u8 0, .int .u8 0, .int .u8 0, .int .u8 0, .int .u8 0, .int .u8 0] := o45
    replace hb2 := hb2.keep k70 (fun hm => sb_b1_o34 _ hm rfl)
    replace hb13 := hb13.keep k70 (fun hm => sb_b2_o34 _ hm rfl)
    replace hb19 := hb19.keep k70 (fun hm => sb_b4_o34 _ hm rfl)
    replace hB := hB.new k70 (fun x hx => .inl (go_v2 x hx))
    clear z_k70 z187
    refine ow_nil ?_
    refine tw_keep [(5, _), (6, _), (74, _), (75, _)] ⟨rfl, rfl, rfl, rfl, trivial⟩ ?_
    refine tw_b ?_
    refine tw_region ?_
    refine ow_g (g_fold (j := 11) (g_addw rfl rfl) (by decide)) rfl ?_
    refine ow_g (g_mv rfl) rfl ?_
    refine ow_nil ?_
    refine tw_keep [(5, _), (6, _), (74, _), (75, _)] ⟨rfl, rfl, rfl, rfl, trivial⟩ ?_
    refine tw_lp ?_
    refine tw_seq ?_
    refine tw_region ?_
    refine ow_g (g_lt rfl rfl) rfl ?_
    refine ow_nil ?_
    refine tw_keep [(5, _), (6, _), (74, _), (75, _), (76, _)] ⟨rfl, rfl, rfl, rfl, rfl, trivial⟩ ?_
    refine tw_seq ?_
    refine tw_ifT rfl (by decide) ?_
    refine tw_skip ?_
    refine tw_seq ?_
    refine tw_block ?_
    refine tw_seq ?_
    refine tw_region ?_
    refine ow_g (g_mv rfl) rfl ?_
    refine ow_g (g_as rfl) rfl ?_
    refine ow_nil ?_
    refine tw_keep [(5, _), (6, _), (74, _), (75, _), (7, _)] ⟨rfl, rfl, rfl, rfl, rfl, trivial⟩ ?_
    refine tw_region ?_
    refine ow_g (g_mv rfl) rfl ?_
    refine ow_g (g_mv rfl) rfl ?_
    refine ow_g (g_mv rfl) rfl ?_
    refine ow_g (g_fold (j := 1) (g_quo rfl rfl (by decide)) (by decide)) rfl ?_
    refine ow_g (g_ixa Try.underlying104 ty24 rfl rfl (by decide)) rfl ?_
    refine ow_g (g_ldb sc24 rfl hb19 rfl) rfl ?_
    refine ow_g (g_mv rfl) rfl ?_
    refine ow_g (g_fold (j := 3) (g_rem rfl rfl (by decide)) (by decide)) rfl ?_
    refine ow_g (g_fold (j := 24) (g_mulw rfl rfl) (by decide)) rfl ?_
    refine ow_gx (e' := z145 / 16777216) (lo := 0) (hi := 1099511627775) (g_shrp (m := 16777216) rfl rfl (by decide) rfl) (rfl) (In.wk (in_div r106 (by decide)) rfl) rfl (fun z188 h124 r135 => ?_)
    refine ow_gx (e' := z188 % 256) (lo := 0) (hi := 255) (g_cv (by rw [Try.underlying24]; rfl) Try.underlying5 rfl) (wrap_uns rfl _) (In.wk (in_mod _ (by decide)) rfl) rfl (fun z189 h125 r136 => ?_)
    refine ow_g (g_ix Try.underlying22 ty5 rfl (by first | assumption | exact Own.rd (by assumption) | exact Rd.keep0 (by assumption) hB | exact Own.rd (Own.keep0 (by assumption) hB)) rfl (by omega)) rfl ?_
    refine ow_d0 (d_sto (u := .int .u8 z189) ty5 rfl rfl rfl o45 (blt_lt rfl)) ?_
    rintro _ w71 ⟨o46, k71, z190⟩
    have z_k71 := k71.size
    replace o46 : Own w71 _ 5 1 v2 32 [.int .u8 z156, .int .u8 z159, .int .u8 z162, .int .u8 z165, .int .u8 z168, .int .u8 z171, .int .u8 z174, .int .u8 z177, .int .u8 z180, .int .u8 z183, .int .u8 z186, .int .u8 z189, .int .u8 0, .int .u8 0, .int .u8 0, .int .u8 0, .int .u8 0, .int .u8 0, .int .u8 0, .int .u8 0, .int .u8 0, .int .u8 0, .int .u8 0, .int .u8 0, .int .u8 0, .int .u8 0, .int .u8 0, .int .u8 0, .int .u8 0, .int .u8 0, .int .u8 0, .int .u8 0] := o46
    replace hb2 := hb2.keep k71 (fun hm => sb_b1_o34 _ hm rfl)
    replace hb13 := hb13.keep k71 (fun hm => sb_b2_o34 _ hm rfl)
    replace hb19 := hb19.keep k71 (fun hm => sb_b4_o34 _ hm rfl)
    replace hB := hB.new k71 (fun x hx => .inl (go_v2 x hx))
    clear z_k71 z190
    refine ow_nil ?_
    refine tw_keep [(5, _), (6, _), (74, _), (75, _)] ⟨rfl, rfl, rfl, rfl, trivial⟩ ?_
    refine tw_b ?_
    refine tw_region ?_
    refine ow_g (g_fold (j := 12) (g_addw rfl rfl) (by decide)) rfl ?_
    refine ow_g (g_mv rfl) rfl ?_
    refine ow_nil ?_
    refine tw_keep [(5, _), (6, _), (74, _), (75, _)] ⟨rfl, rfl, rfl, rfl, trivial⟩ ?_
    refine tw_lp ?_
    refine tw_seq ?_
    refine tw_region ?_
    refine ow_g (g_lt rfl rfl) rfl ?_
    refine ow_nil ?_
    refine tw_keep [(5, _), (6, _), (74, _), (75, _), (76, _)] ⟨rfl, rfl, rfl, rfl, rfl, trivial⟩ ?_
    refine tw_seq ?_
    refine tw_ifT rfl (by decide) ?_
    refine tw_skip ?_
    refine tw_seq ?_
    refine tw_block ?_
    refine tw_seq ?_
    refine tw_region ?_
    refine ow_g (g_mv rfl) rfl ?_
    refine ow_g (g_as rfl) rfl ?_
    refine ow_nil ?_
    refine tw_keep [(5, _), (6, _), (74, _), (75, _), (7, _)] ⟨rfl, rfl, rfl, rfl, rfl, trivial⟩ ?_
    refine tw_region ?_
    refine ow_g (g_mv rfl) rfl ?_
    refine ow_g (g_mv rfl) rfl ?_
    refine ow_g (g_mv rfl) rfl ?_
    refine ow_g (g_fold (j := 1) (g_quo rfl rfl (by decide)) (by decide)) rfl ?_
    refine ow_g (g_ixa Try.underlying104 ty24 rfl rfl (by decide)) rfl ?_
    refine ow_g (g_ldb sc24 rfl hb19 rfl) rfl ?_
    refine ow_g (g_mv rfl) rfl ?_
    refine ow_g (g_fold (j := 4) (g_rem rfl rfl (by decide)) (by decide)) rfl ?_
    refine ow_g (g_fold (j := 32) (g_mulw rfl rfl) (by decide)) rfl ?_
    refine ow_gx (e' := z145 / 4294967296) (lo := 0) (hi := 4294967295) (g_shrp (m := 4294967296) rfl rfl (by decide) rfl) (rfl) (In.wk (in_div r106 (by decide)) rfl) rfl (fun z191 h126 r137 => ?_)
    refine ow_gx (e' := z191 % 256) (lo := 0) (hi := 255) (g_cv (by rw [Try.underlying24]; rfl) Try.underlying5 rfl) (wrap_uns rfl _) (In.wk (in_mod _ (by decide)) rfl) rfl (fun z192 h127 r138 => ?_)
    refine ow_g (g_ix Try.underlying22 ty5 rfl (by first | assumption | exact Own.rd (by assumption) | exact Rd.keep0 (by assumption) hB | exact Own.rd (Own.keep0 (by assumption) hB)) rfl (by omega)) rfl ?_
    refine ow_d0 (d_sto (u := .int .u8 z192) ty5 rfl rfl rfl o46 (blt_lt rfl)) ?_
    rintro _ w72 ⟨o47, k72, z193⟩
    have z_k72 := k72.size
    replace o47 : Own w72 _ 5 1 v2 32 [.int .u8 z156, .int .u8 z159, .int .u8 z162, .int .u8 z165, .int .u8 z168, .int .u8 z171, .int .u8 z174, .int .u8 z177, .int .u8 z180, .int .u8 z183, .int .u8 z186, .int .u8 z189, .int .u8 z192, .int .u8 0, .int .u8 0, .int .u8 0, .int .u8 0, .int .u8 0, .int .u8 0, .int .u8 0, .int .u8 0, .int .u8 0, .int .u8 0, .int .u8 0, .int .u8 0, .int .u8 0, .int .u8 0, .int .u8 0, .int .u8 0, .int .u8 0, .int .u8 0, .int .u8 0] := o47
    replace hb2 := hb2.keep k72 (fun hm => sb_b1_o34 _ hm rfl)
    replace hb13 := hb13.keep k72 (fun hm => sb_b2_o34 _ hm rfl)
    replace hb19 := hb19.keep k72 (fun hm => sb_b4_o34 _ hm rfl)
    replace hB := hB.new k72 (fun x hx => .inl (go_v2 x hx))
    clear z_k72 z193
    refine ow_nil ?_
    refine tw_keep [(5, _), (6, _), (74, _), (75, _)] ⟨rfl, rfl, rfl, rfl, trivial⟩ ?_
    refine tw_b ?_
    refine tw_region ?_
    refine ow_g (g_fold (j := 13) (g_addw rfl rfl) (by decide)) rfl ?_
    refine ow_g (g_mv rfl) rfl ?_
    refine ow_nil ?_
    refine tw_keep [(5, _), (6, _), (74, _), (75, _)] ⟨rfl, rfl, rfl, rfl, trivial⟩ ?_
    refine tw_lp ?_
    refine tw_seq ?_
    refine tw_region ?_
    refine ow_g (g_lt rfl rfl) rfl ?_
    refine ow_nil ?_
    refine tw_keep [(5, _), (6, _), (74, _), (75, _), (76, _)] ⟨rfl, rfl, rfl, rfl, rfl, trivial⟩ ?_
    refine tw_seq ?_
    refine tw_ifT rfl (by decide) ?_
    refine tw_skip ?_
    refine tw_seq ?_
    refine tw_block ?_
    refine tw_seq ?_
    refine tw_region ?_
    refine ow_g (g_mv rfl) rfl ?_
    refine ow_g (g_as rfl) rfl ?_
    refine ow_nil ?_
    refine tw_keep [(5, _), (6, _), (74, _), (75, _), (7, _)] ⟨rfl, rfl, rfl, rfl, rfl, trivial⟩ ?_
    refine tw_region ?_
    refine ow_g (g_mv rfl) rfl ?_
    refine ow_g (g_mv rfl) rfl ?_
    refine ow_g (g_mv rfl) rfl ?_
    refine ow_g (g_fold (j := 1) (g_quo rfl rfl (by decide)) (by decide)) rfl ?_
    refine ow_g (g_ixa Try.underlying104 ty24 rfl rfl (by decide)) rfl ?_
    refine ow_g (g_ldb sc24 rfl hb19 rfl) rfl ?_
    refine ow_g (g_mv rfl) rfl ?_
    refine ow_g (g_fold (j := 5) (g_rem rfl rfl (by decide)) (by decide)) rfl ?_
    refine ow_g (g_fold (j := 40) (g_mulw rfl rfl) (by decide)) rfl ?_
    refine ow_gx (e' := z145 / 1099511627776) (lo := 0) (hi := 16777215) (g_shrp (m := 1099511627776) rfl rfl (by decide) rfl) (rfl) (In.wk (in_div r106 (by decide)) rfl) rfl (fun z194 h128 r139 => ?_)
    refine ow_gx (e' := z194 % 256) (lo := 0) (hi := 255) (g_cv (by rw [Try.underlying24]; rfl) Try.underlying5 rfl) (wrap_uns rfl _) (In.wk (in_mod _ (by decide)) rfl) rfl (fun z195 h129 r140 => ?_)
    refine ow_g (g_ix Try.underlying22 ty5 rfl (by first | assumption | exact Own.rd (by assumption) | exact Rd.keep0 (by assumption) hB | exact Own.rd (Own.keep0 (by assumption) hB)) rfl (by omega)) rfl ?_
    refine ow_d0 (d_sto (u := .int .u8 z195) ty5 rfl rfl rfl o47 (blt_lt rfl)) ?_
    rintro _ w73 ⟨o48, k73, z196⟩
    have z_k73 := k73.size
    replace o48 : Own w73 _ 5 1 v2 32 [.int .u8 z156, .int .u8 z159, .int .u8 z162, .int .u8 z165, .int .u8 z168, .int .u8 z171, .int .u8 z174, .int .u8 z177, .int .u8 z180, .int .u8 z183, .int .u8 z186, .int .u8 z189, .int .u8 z192, .int .u8 z195, .int .u8 0, .int .u8 0, .int .u8 0, .int .u8 0, .int .u8 0, .int .u8 0, .int .u8 0, .int .u8 0, .int .u8 0, .int .u8 0, .int .u8 0, .int .u8 0, .int .u8 0, .int .u8 0, .int .u8 0, .int .u8 0, .int .u8 0, .int .u8 0] := o48
    replace hb2 := hb2.keep k73 (fun hm => sb_b1_o34 _ hm rfl)
    replace hb13 := hb13.keep k73 (fun hm => sb_b2_o34 _ hm rfl)
    replace hb19 := hb19.keep k73 (fun hm => sb_b4_o34 _ hm rfl)
    replace hB := hB.new k73 (fun x hx => .inl (go_v2 x hx))
    clear z_k73 z196
    refine ow_nil ?_
    refine tw_keep [(5, _), (6, _), (74, _), (75, _)] ⟨rfl, rfl, rfl, rfl, trivial⟩ ?_
    refine tw_b ?_
    refine tw_region ?_
    refine ow_g (g_fold (j := 14) (g_addw rfl rfl) (by decide)) rfl ?_
    refine ow_g (g_mv rfl) rfl ?_
    refine ow_nil ?_
    refine tw_keep [(5, _), (6, _), (74, _), (75, _)] ⟨rfl, rfl, rfl, rfl, trivial⟩ ?_
    refine tw_lp ?_
    refine tw_seq ?_
    refine tw_region ?_
    refine ow_g (g_lt rfl rfl) rfl ?_
    refine ow_nil ?_
    refine tw_keep [(5, _), (6, _), (74, _), (75, _), (76, _)] ⟨rfl, rfl, rfl, rfl, rfl, trivial⟩ ?_
    refine tw_seq ?_
    refine tw_ifT rfl (by decide) ?_
    refine tw_skip ?_
    refine tw_seq ?_
    refine tw_block ?_
    refine tw_seq ?_
    refine tw_region ?_
    refine ow_g (g_mv rfl) rfl ?_
    refine ow_g (g_as rfl) rfl ?_
    refine ow_nil ?_
    refine tw_keep [(5, _), (6, _), (74, _), (75, _), (7, _)] ⟨rfl, rfl, rfl, rfl, rfl, trivial⟩ ?_
    refine tw_region ?_
    refine ow_g (g_mv rfl) rfl ?_
    refine ow_g (g_mv rfl) rfl ?_
    refine ow_g (g_mv rfl) rfl ?_
    refine ow_g (g_fold (j := 1) (g_quo rfl rfl (by decide)) (by decide)) rfl ?_
    refine ow_g (g_ixa Try.underlying104 ty24 rfl rfl (by decide)) rfl ?_
    refine ow_g (g_ldb sc24 rfl hb19 rfl) rfl ?_
    refine ow_g (g_mv rfl) rfl ?_
    refine ow_g (g_fold (j := 6) (g_rem rfl rfl (by decide)) (by decide)) rfl ?_
    refine ow_g (g_fold (j := 48) (g_mulw rfl rfl) (by decide)) rfl ?_
    refine ow_gx (e' := z145 / 281474976710656) (lo := 0) (hi := 65535) (g_shrp (m := 281474976710656) rfl rfl (by decide) rfl) (rfl) (In.wk (in_div r106 (by decide)) rfl) rfl (fun z197 h130 r141 => ?_)
    refine ow_gx (e' := z197 % 256) (lo := 0) (hi := 255) (g_cv (by rw [Try.underlying24]; rfl) Try.underlying5 rfl) (wrap_uns rfl _) (In.wk (in_mod _ (by decide)) rfl) rfl (fun z198 h131 r142 => ?_)
    refine ow_g (g_ix Try.underlying22 ty5 rfl (by first | assumption | exact Own.rd (by assumption) | exact Rd.keep0 (by assumption) hB | exact Own.rd (Own.keep0 (by assumption) hB)) rfl (by omega)) rfl ?_
    refine ow_d0 (d_sto (u := .int .u8 z198) ty5 rfl rfl rfl o48 (blt_lt rfl)) ?_
    rintro _ w74 ⟨o49, k74, z199⟩
    have z_k74 := k74.size
    replace o49 : Own w74 _ 5 1 v2 32 [.int .u8 z156, .int .u8 z159, .int .u8 z162, .int .u8 z165, .int .u8 z168, .int .u8 z171, .int .u8 z174, .int .u8 z177, .int .u8 z180, .int .u8 z183, .int .u8 z186, .int .u8 z189, .int .u8 z192, .int .u8 z195, .int .u8 z198, .int .u8 0, .int .u8 0, .int .u8 0, .int .u8 0, .int .u8 0, .int .u8 0, .int .u8 0, .int .u8 0, .int .u8 0, .int .u8 0, .int .u8 0, .int .u8 0, .int .u8 0, .int .u8 0, .int .u8 0, .int .u8 0, .int .u8 0] := o49
    replace hb2 := hb2.keep k74 (fun hm => sb_b1_o34 _ hm rfl)
    replace hb13 := hb13.keep k74 (fun hm => sb_b2_o34 _ hm rfl)
    replace hb19 := hb19.keep k74 (fun hm => sb_b4_o34 _ hm rfl)
    replace hB := hB.new k74 (fun x hx => .inl (go_v2 x hx))
    clear z_k74 z199
    refine ow_nil ?_
    refine tw_keep [(5, _), (6, _), (74, _), (75, _)] ⟨rfl, rfl, rfl, rfl, trivial⟩ ?_
    refine tw_b ?_
    refine tw_region ?_
    refine ow_g (g_fold (j := 15) (g_addw rfl rfl) (by decide)) rfl ?_
    refine ow_g (g_mv rfl) rfl ?_
    refine ow_nil ?_
    refine tw_keep [(5, _), (6, _), (74, _), (75, _)] ⟨rfl, rfl, rfl, rfl, trivial⟩ ?_
    refine tw_lp ?_
    refine tw_seq ?_
    refine tw_region ?_
    refine ow_g (g_lt rfl rfl) rfl ?_
    refine ow_nil ?_
    refine tw_keep [(5, _), (6, _), (74, _), (75, _), (76, _)] ⟨rfl, rfl, rfl, rfl, rfl, trivial⟩ ?_
    refine tw_seq ?_
    refine tw_ifT rfl (by decide) ?_
    refine tw_skip ?_
    refine tw_seq ?_
    refine tw_block ?_
    refine tw_seq ?_
    refine tw_region ?_
    refine ow_g (g_mv rfl) rfl ?_
    refine ow_g (g_as rfl) rfl ?_
    refine ow_nil ?_
    refine tw_keep [(5, _), (6, _), (74, _), (75, _), (7, _)] ⟨rfl, rfl, rfl, rfl, rfl, trivial⟩ ?_
    refine tw_region ?_
    refine ow_g (g_mv rfl) rfl ?_
    refine ow_g (g_mv rfl) rfl ?_
    refine ow_g (g_mv rfl) rfl ?_
    refine ow_g (g_fold (j := 1) (g_quo rfl rfl (by decide)) (by decide)) rfl ?_
    refine ow_g (g_ixa Try.underlying104 ty24 rfl rfl (by decide)) rfl ?_
    refine ow_g (g_ldb sc24 rfl hb19 rfl) rfl ?_
    refine ow_g (g_mv rfl) rfl ?_
    refine ow_g (g_fold (j := 7) (g_rem rfl rfl (by decide)) (by decide)) rfl ?_
    refine ow_g (g_fold (j := 56) (g_mulw rfl rfl) (by decide)) rfl ?_
    refine ow_gx (e' := z145 / 72057594037927936) (lo := 0) (hi := 255) (g_shrp (m := 72057594037927936) rfl rfl (by decide) rfl) (rfl) (In.wk (in_div r106 (by decide)) rfl) rfl (fun z200 h132 r143 => ?_)
    refine ow_gx (e' := z200) (lo := 0) (hi := 255) (g_cv (by rw [Try.underlying24]; rfl) Try.underlying5 rfl) (wrap_fit r143 rfl) (r143) rfl (fun z201 h133 r144 => ?_)
    refine ow_g (g_ix Try.underlying22 ty5 rfl (by first | assumption | exact Own.rd (by assumption) | exact Rd.keep0 (by assumption) hB | exact Own.rd (Own.keep0 (by assumption) hB)) rfl (by omega)) rfl ?_
    refine ow_d0 (d_sto (u := .int .u8 z201) ty5 rfl rfl rfl o49 (blt_lt rfl)) ?_
    rintro _ w75 ⟨o50, k75, z202⟩
    have z_k75 := k75.size
    replace o50 : Own w75 _ 5 1 v2 32 [.int .u8 z156, .int .u8 z159, .int .u8 z162, .int .u8 z165, .int .u8 z168, .int .u8 z171, .int .u8 z174, .int .u8 z177, .int .u8 z180, .int .u8 z183, .int .u8 z186, .int .u8 z189, .int .u8 z192, .int .u8 z195, .int .u8 z198, .int .u8 z201, .int .u8 0, .int .u8 0, .int .u8 0, .int .u8 0, .int .u8 0, .int .u8 0, .int .u8 0, .int .u8 0, .int .u8 0, .int .u8 0, .int .u8 0, .int .u8 0, .int .u8 0, .int .u8 0, .int .u8 0, .int .u8 0] := o50
    replace hb2 := hb2.keep k75 (fun hm => sb_b1_o34 _ hm rfl)
    replace hb13 := hb13.keep k75 (fun hm => sb_b2_o34 _ hm rfl)
    replace hb19 := hb19.keep k75 (fun hm => sb_b4_o34 _ hm rfl)
    replace hB := hB.new k75 (fun x hx => .inl (go_v2 x hx))
    clear z_k75 z202
    refine ow_nil ?_
    refine tw_keep [(5, _), (6, _), (74, _), (75, _)] ⟨rfl, rfl, rfl, rfl, trivial⟩ ?_
    refine tw_b ?_
    refine tw_region ?_
    refine ow_g (g_fold (j := 16) (g_addw rfl rfl) (by decide)) rfl ?_
    refine ow_g (g_mv rfl) rfl ?_
    refine ow_nil ?_
    refine tw_keep [(5, _), (6, _), (74, _), (75, _)] ⟨rfl, rfl, rfl, rfl, trivial⟩ ?_
    refine tw_lp ?_
    refine tw_seq ?_
    refine tw_region ?_
    refine ow_g (g_lt rfl rfl) rfl ?_
    refine ow_nil ?_
    refine tw_keep [(5, _), (6, _), (74, _), (75, _), (76, _)] ⟨rfl, rfl, rfl, rfl, rfl, trivial⟩ ?_
    refine tw_seq ?_
    refine tw_ifT rfl (by decide) ?_
    refine tw_skip ?_
    refine tw_seq ?_
    refine tw_block ?_
    refine tw_seq ?_
    refine tw_region ?_
    refine ow_g (g_mv rfl) rfl ?_
    refine ow_g (g_as rfl) rfl ?_
    refine ow_nil ?_
    refine tw_keep [(5, _), (6, _), (74, _), (75, _), (7, _)] ⟨rfl, rfl, rfl, rfl, rfl, trivial⟩ ?_
    refine tw_region ?_
    refine ow_g (g_mv rfl) rfl ?_
    refine ow_g (g_mv rfl) rfl ?_
    refine ow_g (g_mv rfl) rfl ?_
    refine ow_g (g_fold (j := 2) (g_quo rfl rfl (by decide)) (by decide)) rfl ?_
    refine ow_g (g_ixa Try.underlying104 ty24 rfl rfl (by decide)) rfl ?_
    refine ow_g (g_ldb sc24 rfl hb19 rfl) rfl ?_
    refine ow_g (g_mv rfl) rfl ?_
    refine ow_g (g_fold (j := 0) (g_rem rfl rfl (by decide)) (by decide)) rfl ?_
    refine ow_g (g_fold (j := 0) (g_mulw rfl rfl) (by decide)) rfl ?_
    refine ow_gx (e' := z148 / 1) (lo := 0) (hi := 18446744073709551615) (g_shrp (m := 1) rfl rfl (by decide) rfl) (rfl) (In.wk (in_div r109 (by decide)) rfl) rfl (fun z203 h134 r145 => ?_)
    refine ow_gx (e' := z203 % 256) (lo := 0) (hi := 255) (g_cv (by rw [Try.underlying24]; rfl) Try.underlying5 rfl) (wrap_uns rfl _) (In.wk (in_mod _ (by decide)) rfl) rfl (fun z204 h135 r146 => ?_)
    refine ow_g (g_ix Try.underlying22 ty5 rfl (by first | assumption | exact Own.rd (by assumption) | exact Rd.keep0 (by assumption) hB | exact Own.rd (Own.keep0 (by assumption) hB)) rfl (by omega)) rfl ?_
    refine ow_d0 (d_sto (u := .int .u8 z204) ty5 rfl rfl rfl o50 (blt_lt rfl)) ?_
    rintro _ w76 ⟨o51, k76, z205⟩
    have z_k76 := k76.size
    replace o51 : Own w76 _ 5 1 v2 32 [.int .u8 z156, .int .u8 z159, .int .u8 z162, .int .u8 z165, .int .u8 z168, .int .u8 z171, .int .u8 z174, .int .u8 z177, .int .u8 z180, .int .u8 z183, .int .u8 z186, .int .u8 z189, .int .u8 z192, .int .u8 z195, .int .u8 z198, .int .u8 z201, .int .u8 z204, .int .u8 0, .int .u8 0, .int .u8 0, .int .u8 0, .int .u8 0, .int .u8 0, .int .u8 0, .int .u8 0, .int .u8 0, .int .u8 0, .int .u8 0, .int .u8 0, .int .u8 0, .int .u8 0, .int .u8 0] := o51
    replace hb2 := hb2.keep k76 (fun hm => sb_b1_o34 _ hm rfl)
    replace hb13 := hb13.keep k76 (fun hm => sb_b2_o34 _ hm rfl)
    replace hb19 := hb19.keep k76 (fun hm => sb_b4_o34 _ hm rfl)
    replace hB := hB.new k76 (fun x hx => .inl (go_v2 x hx))
    clear z_k76 z205
    refine ow_nil ?_
    refine tw_keep [(5, _), (6, _), (74, _), (75, _)] ⟨rfl, rfl, rfl, rfl, trivial⟩ ?_
    refine tw_b ?_
    refine tw_region ?_
    refine ow_g (g_fold (j := 17) (g_addw rfl rfl) (by decide)) rfl ?_
    refine ow_g (g_mv rfl) rfl ?_
    refine ow_nil ?_
    refine tw_keep [(5, _), (6, _), (74, _), (75, _)] ⟨rfl, rfl, rfl, rfl, trivial⟩ ?_
    refine tw_lp ?_
    refine tw_seq ?_
    refine tw_region ?_
    refine ow_g (g_lt rfl rfl) rfl ?_
    refine ow_nil ?_
    refine tw_keep [(5, _), (6, _), (74, _), (75, _), (76, _)] ⟨rfl, rfl, rfl, rfl, rfl, trivial⟩ ?_
    refine tw_seq ?_
    refine tw_ifT rfl (by decide) ?_
    refine tw_skip ?_
    refine tw_seq ?_
    refine tw_block ?_
    refine tw_seq ?_
    refine tw_region ?_
    refine ow_g (g_mv rfl) rfl ?_
    refine ow_g (g_as rfl) rfl ?_
    refine ow_nil ?_
    refine tw_keep [(5, _), (6, _), (74, _), (75, _), (7, _)] ⟨rfl, rfl, rfl, rfl, rfl, trivial⟩ ?_
    refine tw_region ?_
    refine ow_g (g_mv rfl) rfl ?_
    refine ow_g (g_mv rfl) rfl ?_
    refine ow_g (g_mv rfl) rfl ?_
    refine ow_g (g_fold (j := 2) (g_quo rfl rfl (by decide)) (by decide)) rfl ?_
    refine ow_g (g_ixa Try.underlying104 ty24 rfl rfl (by decide)) rfl ?_
    refine ow_g (g_ldb sc24 rfl hb19 rfl) rfl ?_
    refine ow_g (g_mv rfl) rfl ?_
    refine ow_g (g_fold (j := 1) (g_rem rfl rfl (by decide)) (by decide)) rfl ?_
    refine ow_g (g_fold (j := 8) (g_mulw rfl rfl) (by decide)) rfl ?_
    refine ow_gx (e' := z148 / 256) (lo := 0) (hi := 72057594037927935) (g_shrp (m := 256) rfl rfl (by decide) rfl) (rfl) (In.wk (in_div r109 (by decide)) rfl) rfl (fun z206 h136 r147 => ?_)
    refine ow_gx (e' := z206 % 256) (lo := 0) (hi := 255) (g_cv (by rw [Try.underlying24]; rfl) Try.underlying5 rfl) (wrap_uns rfl _) (In.wk (in_mod _ (by decide)) rfl) rfl (fun z207 h137 r148 => ?_)
    refine ow_g (g_ix Try.underlying22 ty5 rfl (by first | assumption | exact Own.rd (by assumption) | exact Rd.keep0 (by assumption) hB | exact Own.rd (Own.keep0 (by assumption) hB)) rfl (by omega)) rfl ?_
    refine ow_d0 (d_sto (u := .int .u8 z207) ty5 rfl rfl rfl o51 (blt_lt rfl)) ?_
    rintro _ w77 ⟨o52, k77, z208⟩
    have z_k77 := k77.size
    replace o52 : Own w77 _ 5 1 v2 32 [.int .u8 z156, .int .u8 z159, .int .u8 z162, .int .u8 z165, .int .u8 z168, .int .u8 z171, .int .u8 z174, .int .u8 z177, .int .u8 z180, .int .u8 z183, .int .u8 z186, .int .u8 z189, .int .u8 z192, .int .u8 z195, .int .u8 z198, .int .u8 z201, .int .u8 z204, .int .u8 z207, .int .u8 0, .int .u8 0, .int .u8 0, .int .u8 0, .int .u8 0, .int .u8 0, .int .u8 0, .int .u8 0, .int .u8 0, .int .u8 0, .int .u8 0, .int .u8 0, .int .u8 0, .int .u8 0] := o52
    replace hb2 := hb2.keep k77 (fun hm => sb_b1_o34 _ hm rfl)
    replace hb13 := hb13.keep k77 (fun hm => sb_b2_o34 _ hm rfl)
    replace hb19 := hb19.keep k77 (fun hm => sb_b4_o34 _ hm rfl)
    replace hB := hB.new k77 (fun x hx => .inl (go_v2 x hx))
    clear z_k77 z208
    refine ow_nil ?_
    refine tw_keep [(5, _), (6, _), (74, _), (75, _)] ⟨rfl, rfl, rfl, rfl, trivial⟩ ?_
    refine tw_b ?_
    refine tw_region ?_
    refine ow_g (g_fold (j := 18) (g_addw rfl rfl) (by decide)) rfl ?_
    refine ow_g (g_mv rfl) rfl ?_
    refine ow_nil ?_
    refine tw_keep [(5, _), (6, _), (74, _), (75, _)] ⟨rfl, rfl, rfl, rfl, trivial⟩ ?_
    refine tw_lp ?_
    refine tw_seq ?_
    refine tw_region ?_
    refine ow_g (g_lt rfl rfl) rfl ?_
    refine ow_nil ?_
    refine tw_keep [(5, _), (6, _), (74, _), (75, _), (76, _)] ⟨rfl, rfl, rfl, rfl, rfl, trivial⟩ ?_
    refine tw_seq ?_
    refine tw_ifT rfl (by decide) ?_
    refine tw_skip ?_
    refine tw_seq ?_
    refine tw_block ?_
    refine tw_seq ?_
    refine tw_region ?_
    refine ow_g (g_mv rfl) rfl ?_
    refine ow_g (g_as rfl) rfl ?_
    refine ow_nil ?_
    refine tw_keep [(5, _), (6, _), (74, _), (75, _), (7, _)] ⟨rfl, rfl, rfl, rfl, rfl, trivial⟩ ?_
    refine tw_region ?_
    refine ow_g (g_mv rfl) rfl ?_
    refine ow_g (g_mv rfl) rfl ?_
    refine ow_g (g_mv rfl) rfl ?_
    refine ow_g (g_fold (j := 2) (g_quo rfl rfl (by decide)) (by decide)) rfl ?_
    refine ow_g (g_ixa Try.underlying104 ty24 rfl rfl (by decide)) rfl ?_
    refine ow_g (g_ldb sc24 rfl hb19 rfl) rfl ?_
    refine ow_g (g_mv rfl) rfl ?_
    refine ow_g (g_fold (j := 2) (g_rem rfl rfl (by decide)) (by decide)) rfl ?_
    refine ow_g (g_fold (j := 16) (g_mulw rfl rfl) (by decide)) rfl ?_
    refine ow_gx (e' := z148 / 65536) (lo := 0) (hi := 281474976710655) (g_shrp (m := 65536) rfl rfl (by decide) rfl) (rfl) (In.wk (in_div r109 (by decide)) rfl) rfl (fun z209 h138 r149 => ?_)
    refine ow_gx (e' := z209 % 256) (lo := 0) (hi := 255) (g_cv (by rw [Try.underlying24]; rfl) Try.underlying5 rfl) (wrap_uns rfl _) (In.wk (in_mod _ (by decide)) rfl) rfl (fun z210 h139 r150 => ?_)
    refine ow_g (g_ix Try.underlying22 ty5 rfl (by first | assumption | exact Own.rd (by assumption) | exact Rd.keep0 (by assumption) hB | exact Own.rd (Own.keep0 (by assumption) hB)) rfl (by omega)) rfl ?_
    refine ow_d0 (d_sto (u := .int .u8 z210) ty5 rfl rfl rfl o52 (blt_lt rfl)) ?_
    rintro _ w78 ⟨o53, k78, z211⟩
    have z_k78 := k78.size
    replace o53 : Own w78 _ 5 1 v2 32 [.int .u8 z156, .int .u8 z159, .int .u8 z162, .int .u8 z165, .int .u8 z168, .int .u8 z171, .int .u8 z174, .int .u8 z177, .int .u8 z180, .int .u8 z183, .int .u8 z186, .int .u8 z189, .int .u8 z192, .int .u8 z195, .int .u8 z198, .int .u8 z201, .int .u8 z204, .int .u8 z207, .int .u8 z210, .int .u8 0, .int .u8 0, .int .u8 0, .int .u8 0, .int .u8 0, .int .u8 0, .int .u8 0, .int .u8 0, .int .u8 0, .int .u8 0, .int .u8 0, .int .u8 0, .int .u8 0] := o53
    replace hb2 := hb2.keep k78 (fun hm => sb_b1_o34 _ hm rfl)
    replace hb13 := hb13.keep k78 (fun hm => sb_b2_o34 _ hm rfl)
    replace hb19 := hb19.keep k78 (fun hm => sb_b4_o34 _ hm rfl)
    replace hB := hB.new k78 (fun x hx => .inl (go_v2 x hx))
    clear z_k78 z211
    refine ow_nil ?_
    refine tw_keep [(5, _), (6, _), (74, _), (75, _)] ⟨rfl, rfl, rfl, rfl, trivial⟩ ?_
    refine tw_b ?_
    refine tw_region ?_
    refine ow_g (g_fold (j := 19) (g_addw rfl rfl) (by decide)) rfl ?_
    refine ow_g (g_mv rfl) rfl ?_
    refine ow_nil ?_
    refine tw_keep [(5, _), (6, _), (74, _), (75, _)] ⟨rfl, rfl, rfl, rfl, trivial⟩ ?_
    refine tw_lp ?_
    refine tw_seq ?_
    refine tw_region ?_
    refine ow_g (g_lt rfl rfl) rfl ?_
    refine ow_nil ?_
    refine tw_keep [(5, _), (6, _), (74, _), (75, _), (76, _)] ⟨rfl, rfl, rfl, rfl, rfl, trivial⟩ ?_
    refine tw_seq ?_
    refine tw_ifT rfl (by decide) ?_
    refine tw_skip ?_
    refine tw_seq ?_
    refine tw_block ?_
    refine tw_seq ?_
    refine tw_region ?_
    refine ow_g (g_mv rfl) rfl ?_
    refine ow_g (g_as rfl) rfl ?_
    refine ow_nil ?_
    refine tw_keep [(5, _), (6, _), (74, _), (75, _), (7, _)] ⟨rfl, rfl, rfl, rfl, rfl, trivial⟩ ?_
    refine tw_region ?_
    refine ow_g (g_mv rfl) rfl ?_
    refine ow_g (g_mv rfl) rfl ?_
    refine ow_g (g_mv rfl) rfl ?_
    refine ow_g (g_fold (j := 2) (g_quo rfl rfl (by decide)) (by decide)) rfl ?_
    refine ow_g (g_ixa Try.underlying104 ty24 rfl rfl (by decide)) rfl ?_
    refine ow_g (g_ldb sc24 rfl hb19 rfl) rfl ?_
    refine ow_g (g_mv rfl) rfl ?_
    refine ow_g (g_fold (j := 3) (g_rem rfl rfl (by decide)) (by decide)) rfl ?_
    refine ow_g (g_fold (j := 24) (g_mulw rfl rfl) (by decide)) rfl ?_
    refine ow_gx (e' := z148 / 16777216) (lo := 0) (hi := 1099511627775) (g_shrp (m := 16777216) rfl rfl (by decide) rfl) (rfl) (In.wk (in_div r109 (by decide)) rfl) rfl (fun z212 h140 r151 => ?_)
    refine ow_gx (e' := z212 % 256) (lo := 0) (hi := 255) (g_cv (by rw [Try.underlying24]; rfl) Try.underlying5 rfl) (wrap_uns rfl _) (In.wk (in_mod _ (by decide)) rfl) rfl (fun z213 h141 r152 => ?_)
    refine ow_g (g_ix Try.underlying22 ty5 rfl (by first | assumption | exact Own.rd (by assumption) | exact Rd.keep0 (by assumption) hB | exact Own.rd (Own.keep0 (by assumption) hB)) rfl (by omega)) rfl ?_
    refine ow_d0 (d_sto (u := .int .u8 z213) ty5 rfl rfl rfl o53 (blt_lt rfl)) ?_
    rintro _ w79 ⟨o54, k79, z214⟩
    have z_k79 := k79.size
    replace o54 : Own w79 _ 5 1 v2 32 [.int .u8 z156, .int .u8 z159, .int .u8 z162, .int .u8 z165, .int .u8 z168, .int .u8 z171, .int .u8 z174, .int .u8 z177, .int .u8 z180, .int .u8 z183, .int .u8 z186, .int .u8 z189, .int .u8 z192, .int .u8 z195, .int .u8 z198, .int .u8 z201, .int .u8 z204, .int .u8 z207, .int .u8 z210, .int .u8 z213, .int .u8 0, .int .u8 0, .int .u8 0, .int .u8 0, .int .u8 0, .int .u8 0, .int .u8 0, .int .u8 0, .int .u8 0, .int .u8 0, .int .u8 0, .int .u8 0] := o54
    replace hb2 := hb2.keep k79 (fun hm => sb_b1_o34 _ hm rfl)
    replace hb13 := hb13.keep k79 (fun hm => sb_b2_o34 _ hm rfl)
    replace hb19 := hb19.keep k79 (fun hm => sb_b4_o34 _ hm rfl)
    replace hB := hB.new k79 (fun x hx => .inl (go_v2 x hx))
    clear z_k79 z214
    refine ow_nil ?_
    refine tw_keep [(5, _), (6, _), (74, _), (75, _)] ⟨rfl, rfl, rfl, rfl, trivial⟩ ?_
    refine tw_b ?_
    refine tw_region ?_
    refine ow_g (g_fold (j := 20) (g_addw rfl rfl) (by decide)) rfl ?_
    refine ow_g (g_mv rfl) rfl ?_
    refine ow_nil ?_
    refine tw_keep [(5, _), (6, _), (74, _), (75, _)] ⟨rfl, rfl, rfl, rfl, trivial⟩ ?_
    refine tw_lp ?_
    refine tw_seq ?_
    refine tw_region ?_
    refine ow_g (g_lt rfl rfl) rfl ?_
    refine ow_nil ?_
    refine tw_keep [(5, _), (6, _), (74, _), (75, _), (76, _)] ⟨rfl, rfl, rfl, rfl, rfl, trivial⟩ ?_
    refine tw_seq ?_
    refine tw_ifT rfl (by decide) ?_
    refine tw_skip ?_
    refine tw_seq ?_
    refine tw_block ?_
    refine tw_seq ?_
    refine tw_region ?_
    refine ow_g (g_mv rfl) rfl ?_
    refine ow_g (g_as rfl) rfl ?_
    refine ow_nil ?_
    refine tw_keep [(5, _), (6, _), (74, _), (75, _), (7, _)] ⟨rfl, rfl, rfl, rfl, rfl, trivial⟩ ?_
    refine tw_region ?_
    refine ow_g (g_mv rfl) rfl ?_
    refine ow_g (g_mv rfl) rfl ?_
    refine ow_g (g_mv rfl) rfl ?_
    refine ow_g (g_fold (j := 2) (g_quo rfl rfl (by decide)) (by decide)) rfl ?_
    refine ow_g (g_ixa Try.underlying104 ty24 rfl rfl (by decide)) rfl ?_
    refine ow_g (g_ldb sc24 rfl hb19 rfl) rfl ?_
    refine ow_g (g_mv rfl) rfl ?_
    refine ow_g (g_fold (j := 4) (g_rem rfl rfl (by decide)) (by decide)) rfl ?_
    refine ow_g (g_fold (j := 32) (g_mulw rfl rfl) (by decide)) rfl ?_
    refine ow_gx (e' := z148 / 4294967296) (lo := 0) (hi := 4294967295) (g_shrp (m := 4294967296) rfl rfl (by decide) rfl) (rfl) (In.wk (in_div r109 (by decide)) rfl) rfl (fun z215 h142 r153 => ?_)
    refine ow_gx (e' := z215 % 256) (lo := 0) (hi := 255) (g_cv (by rw [Try.underlying24]; rfl) Try.underlying5 rfl) (wrap_uns rfl _) (In.wk (in_mod _ (by decide)) rfl) rfl (fun z216 h143 r154 => ?_)
    refine ow_g (g_ix Try.underlying22 ty5 rfl (by first | assumption | exact Own.rd (by assumption) | exact Rd.keep0 (by assumption) hB | exact Own.rd (Own.keep0 (by assumption) hB)) rfl (by omega)) rfl ?_
    refine ow_d0 (d_sto (u := .int .u8 z216) ty5 rfl rfl rfl o54 (blt_lt rfl)) ?_
    rintro _ w80 ⟨o55, k80, z217⟩
    have z_k80 := k80.size
    replace o55 : Own w80 _ 5 1 v2 32 [.int .u8 z156, .int .u8 z159, .int .u8 z162, .int .u8 z165, .int .u8 z168, .int .u8 z171, .int .u8 z174, .int .u8 z177, .int .u8 z180, .int .u8 z183, .int .u8 z186, .int .u8 z189, .int .u8 z192, .int .u8 z195, .int .u8 z198, .int .u8 z201, .int .u8 z204, .int .u8 z207, .int .u8 z210, .int .u8 z213, .int .u8 z216, .int .u8 0, .int .u8 0, .int .u8 0, .int .u8 0, .int .u8 0, .int .u8 0, .int .u8 0, .int .u8 0, .int .u8 0, .int .u8 0, .int .u8 0] := o55
    replace hb2 := hb2.keep k80 (fun hm => sb_b1_o34 _ hm rfl)
    replace hb13 := hb13.keep k80 (fun hm => sb_b2_o34 _ hm rfl)
    replace hb19 := hb19.keep k80 (fun hm => sb_b4_o34 _ hm rfl)
    replace hB := hB.new k80 (fun x hx => .inl (go_v2 x hx))
    clear z_k80 z217
    refine ow_nil ?_
    refine tw_keep [(5, _), (6, _), (74, _), (75, _)] ⟨rfl, rfl, rfl, rfl, trivial⟩ ?_
    refine tw_b ?_
    refine tw_region ?_
    refine ow_g (g_fold (j := 21) (g_addw rfl rfl) (by decide)) rfl ?_
    refine ow_g (g_mv rfl) rfl ?_
    refine ow_nil ?_
    refine tw_keep [(5, _), (6, _), (74, _), (75, _)] ⟨rfl, rfl, rfl, rfl, trivial⟩ ?_
    refine tw_lp ?_
    refine tw_seq ?_
    refine tw_region ?_
    refine ow_g (g_lt rfl rfl) rfl ?_
    refine ow_nil ?_
    refine tw_keep [(5, _), (6, _), (74, _), (75, _), (76, _)] ⟨rfl, rfl, rfl, rfl, rfl, trivial⟩ ?_
    refine tw_seq ?_
    refine tw_ifT rfl (by decide) ?_
    refine tw_skip ?_
    refine tw_seq ?_
    refine tw_block ?_
    refine tw_seq ?_
    refine tw_region ?_
    refine ow_g (g_mv rfl) rfl ?_
    refine ow_g (g_as rfl) rfl ?_
    refine ow_nil ?_
    refine tw_keep [(5, _), (6, _), (74, _), (75, _), (7, _)] ⟨rfl, rfl, rfl, rfl, rfl, trivial⟩ ?_
    refine tw_region ?_
    refine ow_g (g_mv rfl) rfl ?_
    refine ow_g (g_mv rfl) rfl ?_
    refine ow_g (g_mv rfl) rfl ?_
    refine ow_g (g_fold (j := 2) (g_quo rfl rfl (by decide)) (by decide)) rfl ?_
    refine ow_g (g_ixa Try.underlying104 ty24 rfl rfl (by decide)) rfl ?_
    refine ow_g (g_ldb sc24 rfl hb19 rfl) rfl ?_
    refine ow_g (g_mv rfl) rfl ?_
    refine ow_g (g_fold (j := 5) (g_rem rfl rfl (by decide)) (by decide)) rfl ?_
    refine ow_g (g_fold (j := 40) (g_mulw rfl rfl) (by decide)) rfl ?_
    refine ow_gx (e' := z148 / 1099511627776) (lo := 0) (hi := 16777215) (g_shrp (m := 1099511627776) rfl rfl (by decide) rfl) (rfl) (In.wk (in_div r109 (by decide)) rfl) rfl (fun z218 h144 r155 => ?_)
    refine ow_gx (e' := z218 % 256) (lo := 0) (hi := 255) (g_cv (by rw [Try.underlying24]; rfl) Try.underlying5 rfl) (wrap_uns rfl _) (In.wk (in_mod _ (by decide)) rfl) rfl (fun z219 h145 r156 => ?_)
    refine ow_g (g_ix Try.underlying22 ty5 rfl (by first | assumption | exact Own.rd (by assumption) | exact Rd.keep0 (by assumption) hB | exact Own.rd (Own.keep0 (by assumption) hB)) rfl (by omega)) rfl ?_
    refine ow_d0 (d_sto (u := .int .u8 z219) ty5 rfl rfl rfl o55 (blt_lt rfl)) ?_
    rintro _ w81 ⟨o56, k81, z220⟩
    have z_k81 := k81.size
    replace o56 : Own w81 _ 5 1 v2 32 [.int .u8 z156, .int .u8 z159, .int .u8 z162, .int .u8 z165, .int .u8 z168, .int .u8 z171, .int .u8 z174, .int .u8 z177, .int .u8 z180, .int .u8 z183, .int .u8 z186, .int .u8 z189, .int .u8 z192, .int .u8 z195, .int .u8 z198, .int .u8 z201, .int .u8 z204, .int .u8 z207, .int .u8 z210, .int .u8 z213, .int .u8 z216, .int .u8 z219, .int .u8 0, .int .u8 0, .int .u8 0, .int .u8 0, .int .u8 0, .int .u8 0, .int .u8 0, .int .u8 0, .int .u8 0, .int .u8 0] := o56
    replace hb2 := hb2.keep k81 (fun hm => sb_b1_o34 _ hm rfl)
    replace hb13 := hb13.keep k81 (fun hm => sb_b2_o34 _ hm rfl)
    replace hb19 := hb19.keep k81 (fun hm => sb_b4_o34 _ hm rfl)
    replace hB := hB.new k81 (fun x hx => .inl (go_v2 x hx))
    clear z_k81 z220
    refine ow_nil ?_
    refine tw_keep [(5, _), (6, _), (74, _), (75, _)] ⟨rfl, rfl, rfl, rfl, trivial⟩ ?_
    refine tw_b ?_
    refine tw_region ?_
    refine ow_g (g_fold (j := 22) (g_addw rfl rfl) (by decide)) rfl ?_
    refine ow_g (g_mv rfl) rfl ?_
    refine ow_nil ?_
    refine tw_keep [(5, _), (6, _), (74, _), (75, _)] ⟨rfl, rfl, rfl, rfl, trivial⟩ ?_
    refine tw_lp ?_
    refine tw_seq ?_
    refine tw_region ?_
    refine ow_g (g_lt rfl rfl) rfl ?_
    refine ow_nil ?_
    refine tw_keep [(5, _), (6, _), (74, _), (75, _), (76, _)] ⟨rfl, rfl, rfl, rfl, rfl, trivial⟩ ?_
    refine tw_seq ?_
    refine tw_ifT rfl (by decide) ?_
    refine tw_skip ?_
    refine tw_seq ?_
    refine tw_block ?_
    refine tw_seq ?_
    refine tw_region ?_
    refine ow_g (g_mv rfl) rfl ?_
    refine ow_g (g_as rfl) rfl ?_
    refine ow_nil ?_
    refine tw_keep [(5, _), (6, _), (74, _), (75, _), (7, _)] ⟨rfl, rfl, rfl, rfl, rfl, trivial⟩ ?_
    refine tw_region ?_
    refine ow_g (g_mv rfl) rfl ?_
    refine ow_g (g_mv rfl) rfl ?_
    refine ow_g (g_mv rfl) rfl ?_
    refine ow_g (g_fold (j := 2) (g_quo rfl rfl (by decide)) (by decide)) rfl ?_
    refine ow_g (g_ixa Try.underlying104 ty24 rfl rfl (by decide)) rfl ?_
    refine ow_g (g_ldb sc24 rfl hb19 rfl) rfl ?_
    refine ow_g (g_mv rfl) rfl ?_
    refine ow_g (g_fold (j := 6) (g_rem rfl rfl (by decide)) (by decide)) rfl ?_
    refine ow_g (g_fold (j := 48) (g_mulw rfl rfl) (by decide)) rfl ?_
    refine ow_gx (e' := z148 / 281474976710656) (lo := 0) (hi := 65535) (g_shrp (m := 281474976710656) rfl rfl (by decide) rfl) (rfl) (In.wk (in_div r109 (by decide)) rfl) rfl (fun z221 h146 r157 => ?_)
    refine ow_gx (e' := z221 % 256) (lo := 0) (hi := 255) (g_cv (by rw [Try.underlying24]; rfl) Try.underlying5 rfl) (wrap_uns rfl _) (In.wk (in_mod _ (by decide)) rfl) rfl (fun z222 h147 r158 => ?_)
    refine ow_g (g_ix Try.underlying22 ty5 rfl (by first | assumption | exact Own.rd (by assumption) | exact Rd.keep0 (by assumption) hB | exact Own.rd (Own.keep0 (by assumption) hB)) rfl (by omega)) rfl ?_
    refine ow_d0 (d_sto (u := .int .u8 z222) ty5 rfl rfl rfl o56 (blt_lt rfl)) ?_
    rintro _ w82 ⟨o57, k82, z223⟩
    have z_k82 := k82.size
    replace o57 : Own w82 _ 5 1 v2 32 [.int .u8 z156, .int .u8 z159, .int .u8 z162, .int .u8 z165, .int .u8 z168, .int .u8 z171, .int .u8 z174, .int .u8 z177, .int .u8 z180, .int .u8 z183, .int .u8 z186, .int .u8 z189, .int .u8 z192, .int .u8 z195, .int .u8 z198, .int .u8 z201, .int .u8 z204, .int .u8 z207, .int .u8 z210, .int .u8 z213, .int .u8 z216, .int .u8 z219, .int .u8 z222, .int .u8 0, .int .u8 0, .int .u8 0, .int .u8 0, .int .u8 0, .int .u8 0, .int .u8 0, .int .u8 0, .int .u8 0] := o57
    replace hb2 := hb2.keep k82 (fun hm => sb_b1_o34 _ hm rfl)
    replace hb13 := hb13.keep k82 (fun hm => sb_b2_o34 _ hm rfl)
    replace hb19 := hb19.keep k82 (fun hm => sb_b4_o34 _ hm rfl)
    replace hB := hB.new k82 (fun x hx => .inl (go_v2 x hx))
    clear z_k82 z223
    refine ow_nil ?_
    refine tw_keep [(5, _), (6, _), (74, _), (75, _)] ⟨rfl, rfl, rfl, rfl, trivial⟩ ?_
    refine tw_b ?_
    refine tw_region ?_
    refine ow_g (g_fold (j := 23) (g_addw rfl rfl) (by decide)) rfl ?_
    refine ow_g (g_mv rfl) rfl ?_
    refine ow_nil ?_
    refine tw_keep [(5, _), (6, _), (74, _), (75, _)] ⟨rfl, rfl, rfl, rfl, trivial⟩ ?_
    refine tw_lp ?_
    refine tw_seq ?_
    refine tw_region ?_
    refine ow_g (g_lt rfl rfl) rfl ?_
    refine ow_nil ?_
    refine tw_keep [(5, _), (6, _), (74, _), (75, _), (76, _)] ⟨rfl, rfl, rfl, rfl, rfl, trivial⟩ ?_
    refine tw_seq ?_
    refine tw_ifT rfl (by decide) ?_
    refine tw_skip ?_
    refine tw_seq ?_
    refine tw_block ?_
    refine tw_seq ?_
    refine tw_region ?_
    refine ow_g (g_mv rfl) rfl ?_
    refine ow_g (g_as rfl) rfl ?_
    refine ow_nil ?_
    refine tw_keep [(5, _), (6, _), (74, _), (75, _), (7, _)] ⟨rfl, rfl, rfl, rfl, rfl, trivial⟩ ?_
    refine tw_region ?_
    refine ow_g (g_mv rfl) rfl ?_
    refine ow_g (g_mv rfl) rfl ?_
    refine ow_g (g_mv rfl) rfl ?_
    refine ow_g (g_fold (j := 2) (g_quo rfl rfl (by decide)) (by decide)) rfl ?_
    refine ow_g (g_ixa Try.underlying104 ty24 rfl rfl (by decide)) rfl ?_
    refine ow_g (g_ldb sc24 rfl hb19 rfl) rfl ?_
    refine ow_g (g_mv rfl) rfl ?_
    refine ow_g (g_fold (j := 7) (g_rem rfl rfl (by decide)) (by decide)) rfl ?_
    refine ow_g (g_fold (j := 56) (g_mulw rfl rfl) (by decide)) rfl ?_
    refine ow_gx (e' := z148 / 72057594037927936) (lo := 0) (hi := 255) (g_shrp (m := 72057594037927936) rfl rfl (by decide) rfl) (rfl) (In.wk (in_div r109 (by decide)) rfl) rfl (fun z224 h148 r159 => ?_)
    refine ow_gx (e' := z224) (lo := 0) (hi := 255) (g_cv (by rw [Try.underlying24]; rfl) Try.underlying5 rfl) (wrap_fit r159 rfl) (r159) rfl (fun z225 h149 r160 => ?_)
    refine ow_g (g_ix Try.underlying22 ty5 rfl (by first | assumption | exact Own.rd (by assumption) | exact Rd.keep0 (by assumption) hB | exact Own.rd (Own.keep0 (by assumption) hB)) rfl (by omega)) rfl ?_
    refine ow_d0 (d_sto (u := .int .u8 z225) ty5 rfl rfl rfl o57 (blt_lt rfl)) ?_
    rintro _ w83 ⟨o58, k83, z226⟩
    have z_k83 := k83.size
    replace o58 : Own w83 _ 5 1 v2 32 [.int .u8 z156, .int .u8 z159, .int .u8 z162, .int .u8 z165, .int .u8 z168, .int .u8 z171, .int .u8 z174, .int .u8 z177, .int .u8 z180, .int .u8 z183, .int .u8 z186, .int .u8 z189, .int .u8 z192, .int .u8 z195, .int .u8 z198, .int .u8 z201, .int .u8 z204, .int .u8 z207, .int .u8 z210, .int .u8 z213, .int .u8 z216, .int .u8 z219, .int .u8 z222, .int .u8 z225, .int .u8 0, .int .u8 0, .int .u8 0, .int .u8 0, .int .u8 0, .int .u8 0, .int .u8 0, .int .u8 0] := o58
    replace hb2 := hb2.keep k83 (fun hm => sb_b1_o34 _ hm rfl)
    replace hb13 := hb13.keep k83 (fun hm => sb_b2_o34 _ hm rfl)
    replace hb19 := hb19.keep k83 (fun hm => sb_b4_o34 _ hm rfl)
    replace hB := hB.new k83 (fun x hx => .inl (go_v2 x hx))
    clear z_k83 z226
    refine ow_nil ?_
    refine tw_keep [(5, _), (6, _), (74, _), (75, _)] ⟨rfl, rfl, rfl, rfl, trivial⟩ ?_
    refine tw_b ?_
    refine tw_region ?_
    refine ow_g (g_fold (j := 24) (g_addw rfl rfl) (by decide)) rfl ?_
    refine ow_g (g_mv rfl) rfl ?_
    refine ow_nil ?_
    refine tw_keep [(5, _), (6, _), (74, _), (75, _)] ⟨rfl, rfl, rfl, rfl, trivial⟩ ?_
    refine tw_lp ?_
    refine tw_seq ?_
    refine tw_region ?_
    refine ow_g (g_lt rfl rfl) rfl ?_
    refine ow_nil ?_
    refine tw_keep [(5, _), (6, _), (74, _), (75, _), (76, _)] ⟨rfl, rfl, rfl, rfl, rfl, trivial⟩ ?_
    refine tw_seq ?_
    refine tw_ifT rfl (by decide) ?_
    refine tw_skip ?_
    refine tw_seq ?_
    refine tw_block ?_
    refine tw_seq ?_
    refine tw_region ?_
    refine ow_g (g_mv rfl) rfl ?_
    refine ow_g (g_as rfl) rfl ?_
    refine ow_nil ?_
    refine tw_keep [(5, _), (6, _), (74, _), (75, _), (7, _)] ⟨rfl, rfl, rfl, rfl, rfl, trivial⟩ ?_
    refine tw_region ?_
    refine ow_g (g_mv rfl) rfl ?_
    refine ow_g (g_mv rfl) rfl ?_
    refine ow_g (g_mv rfl) rfl ?_
    refine ow_g (g_fold (j := 3) (g_quo rfl rfl (by decide)) (by decide)) rfl ?_
    refine ow_g (g_ixa Try.underlying104 ty24 rfl rfl (by decide)) rfl ?_
    refine ow_g (g_ldb sc24 rfl hb19 rfl) rfl ?_
    refine ow_g (g_mv rfl) rfl ?_
    refine ow_g (g_fold (j := 0) (g_rem rfl rfl (by decide)) (by decide)) rfl ?_
    refine ow_g (g_fold (j := 0) (g_mulw rfl rfl) (by decide)) rfl ?_
    refine ow_gx (e' := z151 / 1) (lo := 0) (hi := 9223372036854775807) (g_shrp (m := 1) rfl rfl (by decide) rfl) (rfl) (In.wk (in_div r112 (by decide)) rfl) rfl (fun z227 h150 r161 => ?_)
    refine ow_gx (e' := z227 % 256) (lo := 0) (hi := 255) (g_cv (by rw [Try.underlying24]; rfl) Try.underlying5 rfl) (wrap_uns rfl _) (In.wk (in_mod _ (by decide)) rfl) rfl (fun z228 h151 r162 => ?_)
    refine ow_g (g_ix Try.underlying22 ty5 rfl (by first | assumption | exact Own.rd (by assumption) | exact Rd.keep0 (by assumption) hB | exact Own.rd (Own.keep0 (by assumption) hB)) rfl (by omega)) rfl ?_
    refine ow_d0 (d_sto (u := .int .u8 z228) ty5 rfl rfl rfl o58 (blt_lt rfl)) ?_
    rintro _ w84 ⟨o59, k84, z229⟩
    have z_k84 := k84.size
    replace o59 : Own w84 _ 5 1 v2 32 [.int .u8 z156, .int .u8 z159, .int .u8 z162, .int .u8 z165, .int .u8 z168, .int .u8 z171, .int .u8 z174, .int .u8 z177, .int .u8 z180, .int .u8 z183, .int .u8 z186, .int .u8 z189, .int .u8 z192, .int .u8 z195, .int .u8 z198, .int .u8 z201, .int .u8 z204, .int .u8 z207, .int .u8 z210, .int .u8 z213, .int .u8 z216, .int .u8 z219, .int .u8 z222, .int .u8 z225, .int .u8 z228, .int .u8 0, .int .u8 0, .int .u8 0, .int .u8 0, .int .u8 0, .int .u8 0, .int .u8 0] := o59
    replace hb2 := hb2.keep k84 (fun hm => sb_b1_o34 _ hm rfl)
    replace hb13 := hb13.keep k84 (fun hm => sb_b2_o34 _ hm rfl)
    replace hb19 := hb19.keep k84 (fun hm => sb_b4_o34 _ hm rfl)
    replace hB := hB.new k84 (fun x hx => .inl (go_v2 x hx))
    clear z_k84 z229
    refine ow_nil ?_
    refine tw_keep [(5, _), (6, _), (74, _), (75, _)] ⟨rfl, rfl, rfl, rfl, trivial⟩ ?_
    refine tw_b ?_
    refine tw_region ?_
    refine ow_g (g_fold (j := 25) (g_addw rfl rfl) (by decide)) rfl ?_
    refine ow_g (g_mv rfl) rfl ?_
    refine ow_nil ?_
    refine tw_keep [(5, _), (6, _), (74, _), (75, _)] ⟨rfl, rfl, rfl, rfl, trivial⟩ ?_
    refine tw_lp ?_
    refine tw_seq ?_
    refine tw_region ?_
    refine ow_g (g_lt rfl rfl) rfl ?_
    refine ow_nil ?_
    refine tw_keep [(5, _), (6, _), (74, _), (75, _), (76, _)] ⟨rfl, rfl, rfl, rfl, rfl, trivial⟩ ?_
    refine tw_seq ?_
    refine tw_ifT rfl (by decide) ?_
    refine tw_skip ?_
    refine tw_seq ?_
    refine tw_block ?_
    refine tw_seq ?_
    refine tw_region ?_
    refine ow_g (g_mv rfl) rfl ?_
    refine ow_g (g_as rfl) rfl ?_
    refine ow_nil ?_
    refine tw_keep [(5, _), (6, _), (74, _), (75, _), (7, _)] ⟨rfl, rfl, rfl, rfl, rfl, trivial⟩ ?_
    refine tw_region ?_
    refine ow_g (g_mv rfl) rfl ?_
    refine ow_g (g_mv rfl) rfl ?_
    refine ow_g (g_mv rfl) rfl ?_
    refine ow_g (g_fold (j := 3) (g_quo rfl rfl (by decide)) (by decide)) rfl ?_
    refine ow_g (g_ixa Try.underlying104 ty24 rfl rfl (by decide)) rfl ?_
    refine ow_g (g_ldb sc24 rfl hb19 rfl) rfl ?_
    refine ow_g (g_mv rfl) rfl ?_
    refine ow_g (g_fold (j := 1) (g_rem rfl rfl (by decide)) (by decide)) rfl ?_
    refine ow_g (g_fold (j := 8) (g_mulw rfl rfl) (by decide)) rfl ?_
    refine ow_gx (e' := z151 / 256) (lo := 0) (hi := 36028797018963967) (g_shrp (m := 256) rfl rfl (by decide) rfl) (rfl) (In.wk (in_div r112 (by decide)) rfl) rfl (fun z230 h152 r163 => ?_)
    refine ow_gx (e' := z230 % 256) (lo := 0) (hi := 255) (g_cv (by rw [Try.underlying24]; rfl) Try.underlying5 rfl) (wrap_uns rfl _) (In.wk (in_mod _ (by decide)) rfl) rfl (fun z231 h153 r164 => ?_)
    refine ow_g (g_ix Try.underlying22 ty5 rfl (by first | assumption | exact Own.rd (by assumption) | exact Rd.keep0 (by assumption) hB | exact Own.rd (Own.keep0 (by assumption) hB)) rfl (by omega)) rfl ?_
    refine ow_d0 (d_sto (u := .int .u8 z231) ty5 rfl rfl rfl o59 (blt_lt rfl)) ?_
    rintro _ w85 ⟨o60, k85, z232⟩
    have z_k85 := k85.size
    replace o60 : Own w85 _ 5 1 v2 32 [.int .u8 z156, .int .u8 z159, .int .u8 z162, .int .u8 z165, .int .u8 z168, .int .u8 z171, .int .u8 z174, .int .u8 z177, .int .u8 z180, .int .u8 z183, .int .u8 z186, .int .u8 z189, .int .u8 z192, .int .u8 z195, .int .u8 z198, .int .u8 z201, .int .u8 z204, .int .u8 z207, .int .u8 z210, .int .u8 z213, .int .u8 z216, .int .u8 z219, .int .u8 z222, .int .u8 z225, .int .u8 z228, .int .u8 z231, .int .u8 0, .int .u8 0, .int .u8 0, .int .u8 0, .int .u8 0, .int .u8 0] := o60
    replace hb2 := hb2.keep k85 (fun hm => sb_b1_o34 _ hm rfl)
    replace hb13 := hb13.keep k85 (fun hm => sb_b2_o34 _ hm rfl)
    replace hb19 := hb19.keep k85 (fun hm => sb_b4_o34 _ hm rfl)
    replace hB := hB.new k85 (fun x hx => .inl (go_v2 x hx))
    clear z_k85 z232
    refine ow_nil ?_
    refine tw_keep [(5, _), (6, _), (74, _), (75, _)] ⟨rfl, rfl, rfl, rfl, trivial⟩ ?_
    refine tw_b ?_
    refine tw_region ?_
    refine ow_g (g_fold (j := 26) (g_addw rfl rfl) (by decide)) rfl ?_
    refine ow_g (g_mv rfl) rfl ?_
    refine ow_nil ?_
    refine tw_keep [(5, _), (6, _), (74, _), (75, _)] ⟨rfl, rfl, rfl, rfl, trivial⟩ ?_
    refine tw_lp ?_
    refine tw_seq ?_
    refine tw_region ?_
    refine ow_g (g_lt rfl rfl) rfl ?_
    refine ow_nil ?_
    refine tw_keep [(5, _), (6, _), (74, _), (75, _), (76, _)] ⟨rfl, rfl, rfl, rfl, rfl, trivial⟩ ?_
    refine tw_seq ?_
    refine tw_ifT rfl (by decide) ?_
    refine tw_skip ?_
    refine tw_seq ?_
    refine tw_block ?_
    refine tw_seq ?_
    refine tw_region ?_
    refine ow_g (g_mv rfl) rfl ?_
    refine ow_g (g_as rfl) rfl ?_
    refine ow_nil ?_
    refine tw_keep [(5, _), (6, _), (74, _), (75, _), (7, _)] ⟨rfl, rfl, rfl, rfl, rfl, trivial⟩ ?_
    refine tw_region ?_
    refine ow_g (g_mv rfl) rfl ?_
    refine ow_g (g_mv rfl) rfl ?_
    refine ow_g (g_mv rfl) rfl ?_
    refine ow_g (g_fold (j := 3) (g_quo rfl rfl (by decide)) (by decide)) rfl ?_
    refine ow_g (g_ixa Try.underlying104 ty24 rfl rfl (by decide)) rfl ?_
    refine ow_g (g_ldb sc24 rfl hb19 rfl) rfl ?_
    refine ow_g (g_mv rfl) rfl ?_
    refine ow_g (g_fold (j := 2) (g_rem rfl rfl (by decide)) (by decide)) rfl ?_
    refine ow_g (g_fold (j := 16) (g_mulw rfl rfl) (by decide)) rfl ?_
    refine ow_gx (e' := z151 / 65536) (lo := 0) (hi := 140737488355327) (g_shrp (m := 65536) rfl rfl (by decide) rfl) (rfl) (In.wk (in_div r112 (by decide)) rfl) rfl (fun z233 h154 r165 => ?_)
    refine ow_gx (e' := z233 % 256) (lo := 0) (hi := 255) (g_cv (by rw [Try.underlying24]; rfl) Try.underlying5 rfl) (wrap_uns rfl _) (In.wk (in_mod _ (by decide)) rfl) rfl (fun z234 h155 r166 => ?_)
    refine ow_g (g_ix Try.underlying22 ty5 rfl (by first | assumption | exact Own.rd (by assumption) | exact Rd.keep0 (by assumption) hB | exact Own.rd (Own.keep0 (by assumption) hB)) rfl (by omega)) rfl ?_
    refine ow_d0 (d_sto (u := .int .u8 z234) ty5 rfl rfl rfl o60 (blt_lt rfl)) ?_
    rintro _ w86 ⟨o61, k86, z235⟩
    have z_k86 := k86.size
    replace o61 : Own w86 _ 5 1 v2 32 [.int .u8 z156, .int .u8 z159, .int .u8 z162, .int .u8 z165, .int .u8 z168, .int .u8 z171, .int .u8 z174, .int .u8 z177, .int .u8 z180, .int .u8 z183, .int .u8 z186, .int .u8 z189, .int .u8 z192, .int .u8 z195, .int .u8 z198, .int .u8 z201, .int .u8 z204, .int .u8 z207, .int .u8 z210, .int .u8 z213, .int .u8 z216, .int .u8 z219, .int .u8 z222, .int .u8 z225, .int .u8 z228, .int .u8 z231, .int .u8 z234, .int .u8 0, .int .u8 0, .int .u8 0, .int .u8 0, .int .u8 0] := o61
    replace hb2 := hb2.keep k86 (fun hm => sb_b1_o34 _ hm rfl)
    replace hb13 := hb13.keep k86 (fun hm => sb_b2_o34 _ hm rfl)
    replace hb19 := hb19.keep k86 (fun hm => sb_b4_o34 _ hm rfl)
    replace hB := hB.new k86 (fun x hx => .inl (go_v2 x hx))
    clear z_k86 z235
    refine ow_nil ?_
    refine tw_keep [(5, _), (6, _), (74, _), (75, _)] ⟨rfl, rfl, rfl, rfl, trivial⟩ ?_
    refine tw_b ?_
    refine tw_region ?_
    refine ow_g (g_fold (j := 27) (g_addw rfl rfl) (by decide)) rfl ?_
    refine ow_g (g_mv rfl) rfl ?_
    refine ow_nil ?_
    refine tw_keep [(5, _), (6, _), (74, _), (75, _)] ⟨rfl, rfl, rfl, rfl, trivial⟩ ?_
    refine tw_lp ?_
    refine tw_seq ?_
    refine tw_region ?_
    refine ow_g (g_lt rfl rfl) rfl ?_
    refine ow_nil ?_
    refine tw_keep [(5, _), (6, _), (74, _), (75, _), (76, _)] ⟨rfl, rfl, rfl, rfl, rfl, trivial⟩ ?_
    refine tw_seq ?_
    refine tw_ifT rfl (by decide) ?_
    refine tw_skip ?_
    refine tw_seq ?_
    refine tw_block ?_
    refine tw_seq ?_
    refine tw_region ?_
    refine ow_g (g_mv rfl) rfl ?_
    refine ow_g (g_as rfl) rfl ?_
    refine ow_nil ?_
    refine tw_keep [(5, _), (6, _), (74, _), (75, _), (7, _)] ⟨rfl, rfl, rfl, rfl, rfl, trivial⟩ ?_
    refine tw_region ?_
    refine ow_g (g_mv rfl) rfl ?_
    refine ow_g (g_mv rfl) rfl ?_
    refine ow_g (g_mv rfl) rfl ?_
    refine ow_g (g_fold (j := 3) (g_quo rfl rfl (by decide)) (by decide)) rfl ?_
    refine ow_g (g_ixa Try.underlying104 ty24 rfl rfl (by decide)) rfl ?_
    refine ow_g (g_ldb sc24 rfl hb19 rfl) rfl ?_
    refine ow_g (g_mv rfl) rfl ?_
    refine ow_g (g_fold (j := 3) (g_rem rfl rfl (by decide)) (by decide)) rfl ?_
    refine ow_g (g_fold (j := 24) (g_mulw rfl rfl) (by decide)) rfl ?_
    refine ow_gx (e' := z151 / 16777216) (lo := 0) (hi := 549755813887) (g_shrp (m := 16777216) rfl rfl (by decide) rfl) (rfl) (In.wk (in_div r112 (by decide)) rfl) rfl (fun z236 h156 r167 => ?_)
    refine ow_gx (e' := z236 % 256) (lo := 0) (hi := 255) (g_cv (by rw [Try.underlying24]; rfl) Try.underlying5 rfl) (wrap_uns rfl _) (In.wk (in_mod _ (by decide)) rfl) rfl (fun z237 h157 r168 => ?_)
    refine ow_g (g_ix Try.underlying22 ty5 rfl (by first | assumption | exact Own.rd (by assumption) | exact Rd.keep0 (by assumption) hB | exact Own.rd (Own.keep0 (by assumption) hB)) rfl (by omega)) rfl ?_
    refine ow_d0 (d_sto (u := .int .u8 z237) ty5 rfl rfl rfl o61 (blt_lt rfl)) ?_
    rintro _ w87 ⟨o62, k87, z238⟩
    have z_k87 := k87.size
    replace o62 : Own w87 _ 5 1 v2 32 [.int .u8 z156, .int .u8 z159, .int .u8 z162, .int .u8 z165, .int .u8 z168, .int .u8 z171, .int .u8 z174, .int .u8 z177, .int .u8 z180, .int .u8 z183, .int .u8 z186, .int .u8 z189, .int .u8 z192, .int .u8 z195, .int .u8 z198, .int .u8 z201, .int .u8 z204, .int .u8 z207, .int .u8 z210, .int .u8 z213, .int .u8 z216, .int .u8 z219, .int .u8 z222, .int .u8 z225, .int .u8 z228, .int .u8 z231, .int .u8 z234, .int .u8 z237, .int .u8 0, .int .u8 0, .int .u8 0, .int .u8 0] := o62
    replace hb2 := hb2.keep k87 (fun hm => sb_b1_o34 _ hm rfl)
    replace hb13 := hb13.keep k87 (fun hm => sb_b2_o34 _ hm rfl)
    replace hb19 := hb19.keep k87 (fun hm => sb_b4_o34 _ hm rfl)
    replace hB := hB.new k87 (fun x hx => .inl (go_v2 x hx))
    clear z_k87 z238
    refine ow_nil ?_
    refine tw_keep [(5, _), (6, _), (74, _), (75, _)] ⟨rfl, rfl, rfl, rfl, trivial⟩ ?_
    refine tw_b ?_
    refine tw_region ?_
    refine ow_g (g_fold (j := 28) (g_addw rfl rfl) (by decide)) rfl ?_
    refine ow_g (g_mv rfl) rfl ?_
    refine ow_nil ?_
    refine tw_keep [(5, _), (6, _), (74, _), (75, _)] ⟨rfl, rfl, rfl, rfl, trivial⟩ ?_
    refine tw_lp ?_
    refine tw_seq ?_
    refine tw_region ?_
    refine ow_g (g_lt rfl rfl) rfl ?_
    refine ow_nil ?_
    refine tw_keep [(5, _), (6, _), (74, _), (75, _), (76, _)] ⟨rfl, rfl, rfl, rfl, rfl, trivial⟩ ?_
    refine tw_seq ?_
    refine tw_ifT rfl (by decide) ?_
    refine tw_skip ?_
    refine tw_seq ?_
    refine tw_block ?_
    refine tw_seq ?_
    refine tw_region ?_
    refine ow_g (g_mv rfl) rfl ?_
    refine ow_g (g_as rfl) rfl ?_
    refine ow_nil ?_
    refine tw_keep [(5, _), (6, _), (74, _), (75, _), (7, _)] ⟨rfl, rfl, rfl, rfl, rfl, trivial⟩ ?_
    refine tw_region ?_
    refine ow_g (g_mv rfl) rfl ?_
    refine ow_g (g_mv rfl) rfl ?_
    refine ow_g (g_mv rfl) rfl ?_
    refine ow_g (g_fold (j := 3) (g_quo rfl rfl (by decide)) (by decide)) rfl ?_
    refine ow_g (g_ixa Try.underlying104 ty24 rfl rfl (by decide)) rfl ?_
    refine ow_g (g_ldb sc24 rfl hb19 rfl) rfl ?_
    refine ow_g (g_mv rfl) rfl ?_
    refine ow_g (g_fold (j := 4) (g_rem rfl rfl (by decide)) (by decide)) rfl ?_
    refine ow_g (g_fold (j := 32) (g_mulw rfl rfl) (by decide)) rfl ?_
    refine ow_gx (e' := z151 / 4294967296) (lo := 0) (hi := 2147483647) (g_shrp (m := 4294967296) rfl rfl (by decide) rfl) (rfl) (In.wk (in_div r112 (by decide)) rfl) rfl (fun z239 h158 r169 => ?_)
    refine ow_gx (e' := z239 % 256) (lo := 0) (hi := 255) (g_cv (by rw [Try.underlying24]; rfl) Try.underlying5 rfl) (wrap_uns rfl _) (In.wk (in_mod _ (by decide)) rfl) rfl (fun z240 h159 r170 => ?_)
    refine ow_g (g_ix Try.underlying22 ty5 rfl (by first | assumption | exact Own.rd (by assumption) | exact Rd.keep0 (by assumption) hB | exact Own.rd (Own.keep0 (by assumption) hB)) rfl (by omega)) rfl ?_
    refine ow_d0 (d_sto (u := .int .u8 z240) ty5 rfl rfl rfl o62 (blt_lt rfl)) ?_
    rintro _ w88 ⟨o63, k88, z241⟩
    have z_k88 := k88.size
    replace o63 : Own w88 _ 5 1 v2 32 [.int .u8 z156, .int .u8 z159, .int .u8 z162, .int .u8 z165, .int .u8 z168, .int .u8 z171, .int .u8 z174, .int .u8 z177, .int .u8 z180, .int .u8 z183, .int .u8 z186, .int .u8 z189, .int .u8 z192, .int .u8 z195, .int .u8 z198, .int .u8 z201, .int .u8 z204, .int .u8 z207, .int .u8 z210, .int .u8 z213, .int .u8 z216, .int .u8 z219, .int .u8 z222, .int .u8 z225, .int .u8 z228, .int .u8 z231, .int .u8 z234, .int .u8 z237, .int .u8 z240, .int .u8 0, .int .u8 0, .int .u8 0] := o63
    replace hb2 := hb2.keep k88 (fun hm => sb_b1_o34 _ hm rfl)
    replace hb13 := hb13.keep k88 (fun hm => sb_b2_o34 _ hm rfl)
    replace hb19 := hb19.keep k88 (fun hm => sb_b4_o34 _ hm rfl)
    replace hB := hB.new k88 (fun x hx => .inl (go_v2 x hx))
    clear z_k88 z241
    refine ow_nil ?_
    refine tw_keep [(5, _), (6, _), (74, _), (75, _)] ⟨rfl, rfl, rfl, rfl, trivial⟩ ?_
    refine tw_b ?_
    refine tw_region ?_
    refine ow_g (g_fold (j := 29) (g_addw rfl rfl) (by decide)) rfl ?_
    refine ow_g (g_mv rfl) rfl ?_
    refine ow_nil ?_
    refine tw_keep [(5, _), (6, _), (74, _), (75, _)] ⟨rfl, rfl, rfl, rfl, trivial⟩ ?_
    refine tw_lp ?_
    refine tw_seq ?_
    refine tw_region ?_
    refine ow_g (g_lt rfl rfl) rfl ?_
    refine ow_nil ?_
    refine tw_keep [(5, _), (6, _), (74, _), (75, _), (76, _)] ⟨rfl, rfl, rfl, rfl, rfl, trivial⟩ ?_
    refine tw_seq ?_
    refine tw_ifT rfl (by decide) ?_
    refine tw_skip ?_
    refine tw_seq ?_
    refine tw_block ?_
    refine tw_seq ?_
    refine tw_region ?_
    refine ow_g (g_mv rfl) rfl ?_
    refine ow_g (g_as rfl) rfl ?_
    refine ow_nil ?_
    refine tw_keep [(5, _), (6, _), (74, _), (75, _), (7, _)] ⟨rfl, rfl, rfl, rfl, rfl, trivial⟩ ?_
    refine tw_region ?_
    refine ow_g (g_mv rfl) rfl ?_
    refine ow_g (g_mv rfl) rfl ?_
    refine ow_g (g_mv rfl) rfl ?_
    refine ow_g (g_fold (j := 3) (g_quo rfl rfl (by decide)) (by decide)) rfl ?_
    refine ow_g (g_ixa Try.underlying104 ty24 rfl rfl (by decide)) rfl ?_
    refine ow_g (g_ldb sc24 rfl hb19 rfl) rfl ?_
    refine ow_g (g_mv rfl) rfl ?_
    refine ow_g (g_fold (j := 5) (g_rem rfl rfl (by decide)) (by decide)) rfl ?_
    refine ow_g (g_fold (j := 40) (g_mulw rfl rfl) (by decide)) rfl ?_
    refine ow_gx (e' := z151 / 1099511627776) (lo := 0) (hi := 8388607) (g_shrp (m := 1099511627776) rfl rfl (by decide) rfl) (rfl) (In.wk (in_div r112 (by decide)) rfl) rfl (fun z242 h160 r171 => ?_)
    refine ow_gx (e' := z242 % 256) (lo := 0) (hi := 255) (g_cv (by rw [Try.underlying24]; rfl) Try.underlying5 rfl) (wrap_uns rfl _) (In.wk (in_mod _ (by decide)) rfl) rfl (fun z243 h161 r172 => ?_)
    refine ow_g (g_ix Try.underlying22 ty5 rfl (by first | assumption | exact Own.rd (by assumption) | exact Rd.keep0 (by assumption) hB | exact Own.rd (Own.keep0 (by assumption) hB)) rfl (by omega)) rfl ?_
    refine ow_d0 (d_sto (u := .int .u8 z243) ty5 rfl rfl rfl o63 (blt_lt rfl)) ?_
    rintro _ w89 ⟨o64, k89, z244⟩
    have z_k89 := k89.size
    replace o64 : Own w89 _ 5 1 v2 32 [.int .u8 z156, .int .u8 z159, .int .u8 z162, .int .u8 z165, .int .u8 z168, .int .u8 z171, .int .u8 z174, .int .u8 z177, .int .u8 z180, .int .u8 z183, .int .u8 z186, .int .u8 z189, .int .u8 z192, .int .u8 z195, .int .u8 z198, .int .u8 z201, .int .u8 z204, .int .u8 z207, .int .u8 z210, .int .u8 z213, .int .u8 z216, .int .u8 z219, .int .u8 z222, .int .u8 z225, .int .u8 z228, .int .u8 z231, .int .u8 z234, .int .u8 z237, .int .u8 z240, .int .u8 z243, .int .u8 0, .int .u8 0] := o64
    replace hb2 := hb2.keep k89 (fun hm => sb_b1_o34 _ hm rfl)
    replace hb13 := hb13.keep k89 (fun hm => sb_b2_o34 _ hm rfl)
    replace hb19 := hb19.keep k89 (fun hm => sb_b4_o34 _ hm rfl)
    replace hB := hB.new k89 (fun x hx => .inl (go_v2 x hx))
    clear z_k89 z244
    refine ow_nil ?_
    refine tw_keep [(5, _), (6, _), (74, _), (75, _)] ⟨rfl, rfl, rfl, rfl, trivial⟩ ?_
    refine tw_b ?_
    refine tw_region ?_
    refine ow_g (g_fold (j := 30) (g_addw rfl rfl) (by decide)) rfl ?_
    refine ow_g (g_mv rfl) rfl ?_
    refine ow_nil ?_
    refine tw_keep [(5, _), (6, _), (74, _), (75, _)] ⟨rfl, rfl, rfl, rfl, trivial⟩ ?_
    refine tw_lp ?_
    refine tw_seq ?_
    refine tw_region ?_
    refine ow_g (g_lt rfl rfl) rfl ?_
    refine ow_nil ?_
    refine tw_keep [(5, _), (6, _), (74, _), (75, _), (76, _)] ⟨rfl, rfl, rfl, rfl, rfl, trivial⟩ ?_
    refine tw_seq ?_
    refine tw_ifT rfl (by decide) ?_
    refine tw_skip ?_
    refine tw_seq ?_
    refine tw_block ?_
    refine tw_seq ?_
    refine tw_region ?_
    refine ow_g (g_mv rfl) rfl ?_
    refine ow_g (g_as rfl) rfl ?_
    refine ow_nil ?_
    refine tw_keep [(5, _), (6, _), (74, _), (75, _), (7, _)] ⟨rfl, rfl, rfl, rfl, rfl, trivial⟩ ?_
    refine tw_region ?_
    refine ow_g (g_mv rfl) rfl ?_
    refine ow_g (g_mv rfl) rfl ?_
    refine ow_g (g_mv rfl) rfl ?_
    refine ow_g (g_fold (j := 3) (g_quo rfl rfl (by decide)) (by decide)) rfl ?_
    refine ow_g (g_ixa Try.underlying104 ty24 rfl rfl (by decide)) rfl ?_
    refine ow_g (g_ldb sc24 rfl hb19 rfl) rfl ?_
    refine ow_g (g_mv rfl) rfl ?_
    refine ow_g (g_fold (j := 6) (g_rem rfl rfl (by decide)) (by decide)) rfl ?_
    refine ow_g (g_fold (j := 48) (g_mulw rfl rfl) (by decide)) rfl ?_
    refine ow_gx (e' := z151 / 281474976710656) (lo := 0) (hi := 32767) (g_shrp (m := 281474976710656) rfl rfl (by decide) rfl) (rfl) (In.wk (in_div r112 (by decide)) rfl) rfl (fun z245 h162 r173 => ?_)
    refine ow_gx (e' := z245 % 256) (lo := 0) (hi := 255) (g_cv (by rw [Try.underlying24]; rfl) Try.underlying5 rfl) (wrap_uns rfl _) (In.wk (in_mod _ (by decide)) rfl) rfl (fun z246 h163 r174 => ?_)
    refine ow_g (g_ix Try.underlying22 ty5 rfl (by first | assumption | exact Own.rd (by assumption) | exact Rd.keep0 (by assumption) hB | exact Own.rd (Own.keep0 (by assumption) hB)) rfl (by omega)) rfl ?_
    refine ow_d0 (d_sto (u := .int .u8 z246) ty5 rfl rfl rfl o64 (blt_lt rfl)) ?_
    rintro _ w90 ⟨o65, k90, z247⟩
    have z_k90 := k90.size
    replace o65 : Own w90 _ 5 1 v2 32 [.int .u8 z156, .int .u8 z159, .int .u8 z162, .int .u8 z165, .int .u8 z168, .int .u8 z171, .int .u8 z174, .int .u8 z177, .int .u8 z180, .int .u8 z183, .int .u8 z186, .int .u8 z189, .int .u8 z192, .int .u8 z195, .int .u8 z198, .int .u8 z201, .int .u8 z204, .int .u8 z207, .int .u8 z210, .int .u8 z213, .int .u8 z216, .int .u8 z219, .int .u8 z222, .int .u8 z225, .int .u8 z228, .int .u8 z231, .int .u8 z234, .int .u8 z237, .int .u8 z240, .int .u8 z243, .int .u8 z246, .int .u8 0] := o65
    replace hb2 := hb2.keep k90 (fun hm => sb_b1_o34 _ hm rfl)
    replace hb13 := hb13.keep k90 (fun hm => sb_b2_o34 _ hm rfl)
    replace hb19 := hb19.keep k90 (fun hm => sb_b4_o34 _ hm rfl)
    replace hB := hB.new k90 (fun x hx => .inl (go_v2 x hx))
    clear z_k90 z247
    refine ow_nil ?_
    refine tw_keep [(5, _), (6, _), (74, _), (75, _)] ⟨rfl, rfl, rfl, rfl, trivial⟩ ?_
    refine tw_b ?_
    refine tw_region ?_
    refine ow_g (g_fold (j := 31) (g_addw rfl rfl) (by decide)) rfl ?_
    refine ow_g (g_mv rfl) rfl ?_
    refine ow_nil ?_
    refine tw_keep [(5, _), (6, _), (74, _), (75, _)] ⟨rfl, rfl, rfl, rfl, trivial⟩ ?_
    refine tw_lp ?_
    refine tw_seq ?_
    refine tw_region ?_
    refine ow_g (g_lt rfl rfl) rfl ?_
    refine ow_nil ?_
    refine tw_keep [(5, _), (6, _), (74, _), (75, _), (76, _)] ⟨rfl, rfl, rfl, rfl, rfl, trivial⟩ ?_
    refine tw_seq ?_
    refine tw_ifT rfl (by decide) ?_
    refine tw_skip ?_
    refine tw_seq ?_
    refine tw_block ?_
    refine tw_seq ?_
    refine tw_region ?_
    refine ow_g (g_mv rfl) rfl ?_
    refine ow_g (g_as rfl) rfl ?_
    refine ow_nil ?_
    refine tw_keep [(5, _), (6, _), (74, _), (75, _), (7, _)] ⟨rfl, rfl, rfl, rfl, rfl, trivial⟩ ?_
    refine tw_region ?_
    refine ow_g (g_mv rfl) rfl ?_
    refine ow_g (g_mv rfl) rfl ?_
    refine ow_g (g_mv rfl) rfl ?_
    refine ow_g (g_fold (j := 3) (g_quo rfl rfl (by decide)) (by decide)) rfl ?_
    refine ow_g (g_ixa Try.underlying104 ty24 rfl rfl (by decide)) rfl ?_
    refine ow_g (g_ldb sc24 rfl hb19 rfl) rfl ?_
    refine ow_g (g_mv rfl) rfl ?_
    refine ow_g (g_fold (j := 7) (g_rem rfl rfl (by decide)) (by decide)) rfl ?_
    refine ow_g (g_fold (j := 56) (g_mulw rfl rfl) (by decide)) rfl ?_
    refine ow_gx (e' := z151 / 72057594037927936) (lo := 0) (hi := 127) (g_shrp (m := 72057594037927936) rfl rfl (by decide) rfl) (rfl) (In.wk (in_div r112 (by decide)) rfl) rfl (fun z248 h164 r175 => ?_)
    refine ow_gx (e' := z248) (lo := 0) (hi := 127) (g_cv (by rw [Try.underlying24]; rfl) Try.underlying5 rfl) (wrap_fit r175 rfl) (r175) rfl (fun z249 h165 r176 => ?_)
    refine ow_g (g_ix Try.underlying22 ty5 rfl (by first | assumption | exact Own.rd (by assumption) | exact Rd.keep0 (by assumption) hB | exact Own.rd (Own.keep0 (by assumption) hB)) rfl (by omega)) rfl ?_
    refine ow_d0 (d_sto (u := .int .u8 z249) ty5 rfl rfl rfl o65 (blt_lt rfl)) ?_
    rintro _ w91 ⟨o66, k91, z250⟩
    have z_k91 := k91.size
    replace o66 : Own w91 _ 5 1 v2 32 [.int .u8 z156, .int .u8 z159, .int .u8 z162, .int .u8 z165, .int .u8 z168, .int .u8 z171, .int .u8 z174, .int .u8 z177, .int .u8 z180, .int .u8 z183, .int .u8 z186, .int .u8 z189, .int .u8 z192, .int .u8 z195, .int .u8 z198, .int .u8 z201, .int .u8 z204, .int .u8 z207, .int .u8 z210, .int .u8 z213, .int .u8 z216, .int .u8 z219, .int .u8 z222, .int .u8 z225, .int .u8 z228, .int .u8 z231, .int .u8 z234, .int .u8 z237, .int .u8 z240, .int .u8 z243, .int .u8 z246, .int .u8 z249] := o66
    replace hb2 := hb2.keep k91 (fun hm => sb_b1_o34 _ hm rfl)
    replace hb13 := hb13.keep k91 (fun hm => sb_b2_o34 _ hm rfl)
    replace hb19 := hb19.keep k91 (fun hm => sb_b4_o34 _ hm rfl)
    replace hB := hB.new k91 (fun x hx => .inl (go_v2 x hx))
    clear z_k91 z250
    refine ow_nil ?_
    refine tw_keep [(5, _), (6, _), (74, _), (75, _)] ⟨rfl, rfl, rfl, rfl, trivial⟩ ?_
    refine tw_b ?_
    refine tw_region ?_
    refine ow_g (g_fold (j := 32) (g_addw rfl rfl) (by decide)) rfl ?_
    refine ow_g (g_mv rfl) rfl ?_
    refine ow_nil ?_
    refine tw_keep [(5, _), (6, _), (74, _), (75, _)] ⟨rfl, rfl, rfl, rfl, trivial⟩ ?_
    refine tw_lp ?_
    refine tw_seq ?_
    refine tw_region ?_
    refine ow_g (g_lt rfl rfl) rfl ?_
    refine ow_nil ?_
    refine tw_keep [(5, _), (6, _), (74, _), (75, _), (76, _)] ⟨rfl, rfl, rfl, rfl, rfl, trivial⟩ ?_
    refine tw_seq ?_
    refine tw_ifF rfl (by decide) ?_
    refine tw_exit rfl ?_
    refine tw_seq ?_
    refine tw_region ?_
    refine ow_g (g_mv rfl) rfl ?_
    refine ow_g (g_as rfl) rfl ?_
    refine ow_nil ?_
    refine tw_keep [(2, _)] ⟨rfl, trivial⟩ ?_
    refine tw_ret1 hfin Try.results68 rfl ?_
    have hv2 : val5 hh2 = hh2 0 + hh2 1 * 2251799813685248 + hh2 2 * 5070602400912917605986812821504 + hh2 3 * 11417981541647679048466287755595961091061972992 + hh2 4 * 25711008708143844408671393477458601640355247900524685364822016 := rfl
    have hV0 : In ((hh2 0) + (hh2 1) * 2251799813685248 + (hh2 2) * 5070602400912917605986812821504 + (hh2 3) * 11417981541647679048466287755595961091061972992 + (hh2 4) * 25711008708143844408671393477458601640355247900524685364822016) 0 (57896044618658097711785492504343953926634992332820282019728792003956564819949 - 1) := by clear e01 e11 e21 e31 e41 g01 g11 g21 g31 g41 e02 e12 e22 e32 e42 g02 g12 g22 g32 g42 gv1 gv2; simp only [Eqn, In] at h1 h2 h3 h4 h5 h6 h7 h8 h9 h10 h11 h12 h13 h14 r11 r7 r8 r9 r10 ⊢; omega
    have hVa : fp ((hh2 0) + (hh2 1) * 2251799813685248 + (hh2 2) * 5070602400912917605986812821504 + (hh2 3) * 11417981541647679048466287755595961091061972992 + (hh2 4) * 25711008708143844408671393477458601640355247900524685364822016) = a := by rw [← hfv]; exact fp_eq (-(c41 + c42)) (by have gv1 := gv1; have gv2 := gv2; clear e01 e11 e21 e31 e41 g01 g11 g21 g31 g41 e02 e12 e22 e32 e42 g02 g12 g22 g32 g42; simp only [Eqn, In] at h1 h2 h3 h4 h5 h6 h7 h8 h9 h10 h11 h12 h13 h14 r11 r7 r8 r9 r10; omega)
    have hval : (a.val : Int) = ((hh2 0) + (hh2 1) * 2251799813685248 + (hh2 2) * 5070602400912917605986812821504 + (hh2 3) * 11417981541647679048466287755595961091061972992 + (hh2 4) * 25711008708143844408671393477458601640355247900524685364822016) := val_of hVa hV0.1 (by have := hV0.2; omega)
    have hpw := put_words (In.wk r11 rfl) (In.wk r7 rfl) (In.wk r8 rfl) (In.wk r9 rfl) (In.wk r10 rfl)
    have hwb := words_bytes (V := ((hh2 0) + (hh2 1) * 2251799813685248 + (hh2 2) * 5070602400912917605986812821504 + (hh2 3) * 11417981541647679048466287755595961091061972992 + (hh2 4) * 25711008708143844408671393477458601640355247900524685364822016)) (In.wk r103 rfl) (In.wk r106 rfl) (In.wk r109 rfl) (In.wk r112 rfl) (by clear hval hVa hV0; simp only [Eqn] at h101 h100 h99 h98 h97 h96 h95 h94 h93 h92 h91; subst h101 h100 h99 h98 h97 h96 h95 h94 h93 h92 h91; exact hpw)
    have hcs : [.int .u8 z156, .int .u8 z159, .int .u8 z162, .int .u8 z165, .int .u8 z168, .int .u8 z171, .int .u8 z174, .int .u8 z177, .int .u8 z180, .int .u8 z183, .int .u8 z186, .int .u8 z189, .int .u8 z192, .int .u8 z195, .int .u8 z198, .int .u8 z201, .int .u8 z204, .int .u8 z207, .int .u8 z210, .int .u8 z213, .int .u8 z216, .int .u8 z219, .int .u8 z222, .int .u8 z225, .int .u8 z228, .int .u8 z231, .int .u8 z234, .int .u8 z237, .int .u8 z240, .int .u8 z243, .int .u8 z246, .int .u8 z249] = bv (fpB a) := by
      rw [bv_fpB, hval, hwb]
      simp only [Eqn] at h165 h164 h163 h162 h161 h160 h159 h158 h157 h156 h155 h154 h153 h152 h151 h150 h149 h148 h147 h146 h145 h144 h143 h142 h141 h140 h139 h138 h137 h136 h135 h134 h133 h132 h131 h130 h129 h128 h127 h126 h125 h124 h123 h122 h121 h120 h119 h118 h117 h116 h115 h114 h113 h112 h111 h110 h109 h108 h107 h106 h105 h104 h103 h102
      simp only [h165, h164, h163, h162, h161, h160, h159, h158, h157, h156, h155, h154, h153, h152, h151, h150, h149, h148, h147, h146, h145, h144, h143, h142, h141, h140, h139, h138, h137, h136, h135, h134, h133, h132, h131, h130, h129, h128, h127, h126, h125, h124, h123, h122, h121, h120, h119, h118, h117, h116, h115, h114, h113, h112, h111, h110, h109, h108, h107, h106, h105, h104, h103, h102, Int.ediv_one]
    rw [hcs] at o66
    exact ⟨by unfold OwnB; rw [fpB_length]; exact o66.lo gl_v2, hB⟩

end Go.Proofs.Ytkngeapegpehpaa.W
