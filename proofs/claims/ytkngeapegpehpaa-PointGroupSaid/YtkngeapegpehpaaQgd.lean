/- Contracts and laws, part 4 of 6: what each function of the program and of the reference computes, shown once. -/
import Derived.Test.YtkngeapegpehpaaQgc
namespace Go.Proofs.Ytkngeapegpehpaa.W
open Go Go.Eng Go.Byt
set_option linter.unusedVariables false
set_option linter.unusedSimpArgs false
open Go.Fld Go.Ed
set_option maxRecDepth 100000 in
set_option maxHeartbeats 4000000 in
theorem put_any (f : Nat → Int) (a : Fp) (hf : El f a) (w : World) : Rets Try.prog 68 [.agg (iv .u64 5 f).toArray] w (fun v w' => OwnB w' w.heap.size v (fpB a) ∧ Keep [] w w') := by
 have hB : Keep [] w w := Keep.refl _ _
 obtain ⟨f0, f1, f2, f3, f4, hfv⟩ := hf
 refine rets_of_tw Try.func68 rfl (by decide) Try.ntmps68 rfl (fun fin _ hfin => ?_)
 refine tw_seq (tw_region (ow_d (d_box (cs := [.int .u64 (f 0), .int .u64 (f 1), .int .u64 (f 2), .int .u64 (f 3), .int .u64 (f 4)]) rfl rfl) rfl ?_))
 rintro _ w1 ⟨b1, rfl, eb1, hb1, k1, z1⟩
 have ge_b1 : w.heap.size ≤ b1 := by have := hB.size; omega
 replace hB := hB.trans k1
 clear eb1 z1
 refine ow_g (g_as rfl) rfl (ow_nil (tw_seq (tw_region (ow_g (g_ldab (cs' := [_, _, _, _, _]) ag26 ty26 rfl hb1 rfl rfl) rfl ?_))))
 refine ow_d (d_call (vs := [_]) rfl (carry_any f (In.wk f0 rfl) (In.wk f1 rfl) (In.wk f2 rfl) (In.wk f3 rfl) (In.wk f4 rfl) _)) rfl ?_
 rintro _ w2 ⟨hh1, c01, c11, c21, c31, c41, rfl, e01, e11, e21, e31, e41, g01, g11, g21, g31, g41, gv1, k2⟩
 replace hb1 := hb1.keep0 k2
 replace hB := hB.trans k2
 obtain ⟨r1, r2, r3, r4, r5⟩ := carry_bounds (t := 2251799813685285) e01 e11 e21 e31 e41 g01 g11 g21 g31 g41 (In.wk f0 rfl : In _ 0 4503599627370495) (In.wk f1 rfl : In _ 0 4503599627370495) (In.wk f2 rfl : In _ 0 4503599627370495) (In.wk f3 rfl : In _ 0 4503599627370495) (In.wk f4 rfl : In _ 0 4503599627370495) rfl
 refine ow_d (d_call (vs := [_]) rfl (carry_any hh1 (In.wk r1 rfl) (In.wk r2 rfl) (In.wk r3 rfl) (In.wk r4 rfl) (In.wk r5 rfl) _)) rfl ?_
 rintro _ w3 ⟨hh2, c02, c12, c22, c32, c42, rfl, e02, e12, e22, e32, e42, g02, g12, g22, g32, g42, gv2, k3⟩
 replace hb1 := hb1.keep0 k3
 replace hB := hB.trans k3
 obtain ⟨r6, r7, r8, r9, r10⟩ := carry_bounds (t := 2251799813685266) e02 e12 e22 e32 e42 g02 g12 g22 g32 g42 (In.wk r1 rfl : In _ 0 2251799813685285) (In.wk r2 rfl : In _ 0 2251799813685247) (In.wk r3 rfl : In _ 0 2251799813685247) (In.wk r4 rfl : In _ 0 2251799813685247) (In.wk r5 rfl : In _ 0 2251799813685247) rfl
 have r11 := carry_twice e01 e11 e21 e31 e41 g01 g11 g21 g31 g41 f0 f1 f2 f3 f4 e02 e12 e22 e32 e42 g02
 refine ow_d0 (d_sta ty26 rfl rfl rfl ivF_one hb1 rfl) ?_
 rintro _ w4 ⟨hb2, k4, z2⟩
 replace hB := hB.new k4 (fun x hx => .inl ((List.mem_singleton.1 hx) ▸ ge_b1))
 clear z2
 replace hb2 : Bk w4 b1 _ [.int .u64 (hh2 0), .int .u64 (hh2 1), .int .u64 (hh2 2), .int .u64 (hh2 3), .int .u64 (hh2 4)] := hb2
 refine ow_nil (tw_seq (tw_region (ow_g (g_ldab (cs' := [_, _, _, _, _]) ag26 ty26 rfl hb2 rfl rfl) rfl ?_)))
 refine ow_d (d_alloc ty26) rfl ?_
 rintro _ w5 ⟨b2, rfl, eb2, hb3, k5, z3⟩
 have ge_b2 : w.heap.size ≤ b2 := by have := hB.size; omega
 have ne_b1_b2 : b1 ≠ b2 := by have := hb2.lt; omega
 replace hb2 := hb2.keep0 k5
 replace hB := hB.trans k5
 clear eb2 z3
 refine ow_d0 (d_sta ty26 rfl rfl rfl (by simp only [List.forall_mem_cons]; refine ⟨rfl, rfl, rfl, rfl, rfl, fun v hv => by cases hv⟩) hb3 rfl) ?_
 rintro _ w6 ⟨hb4, k6, z4⟩
 replace hb2 := hb2.keep k6 (fun hm => absurd (List.mem_singleton.1 hm) ne_b1_b2)
 replace hB := hB.new k6 (fun x hx => .inl ((List.mem_singleton.1 hx) ▸ ge_b2))
 clear z4
 replace hb4 : Bk w6 b2 _ [.int .u64 (hh2 0), .int .u64 (hh2 1), .int .u64 (hh2 2), .int .u64 (hh2 3), .int .u64 (hh2 4)] := hb4
 refine ow_nil (tw_seq (tw_region (ow_g (g_ixa Try.underlying26 ty24 rfl rfl (by decide)) rfl ?_)))
 refine ow_g (g_ldb sc24 rfl hb4 rfl) rfl ?_
 refine ow_gx (e' := (hh2 0) + 19) (lo := 19) (hi := 2251799813685266) (g_addw rfl rfl) (wrap_fit (in_add r11 (in_c 19)) rfl) (In.wk (in_add r11 (in_c 19)) rfl) rfl (fun z5 h1 r12 => ?_)
 refine ow_g (g_ixa Try.underlying26 ty24 rfl rfl (by decide)) rfl ?_
 refine ow_d0 (d_st ty24 rfl rfl rfl hb4 rfl) ?_
 rintro _ w7 ⟨hb5, k7, z6⟩
 replace hb2 := hb2.keep k7 (fun hm => absurd (List.mem_singleton.1 hm) ne_b1_b2)
 replace hB := hB.new k7 (fun x hx => .inl ((List.mem_singleton.1 hx) ▸ ge_b2))
 clear z6
 replace hb5 : Bk w7 b2 _ [.int .u64 z5, .int .u64 (hh2 1), .int .u64 (hh2 2), .int .u64 (hh2 3), .int .u64 (hh2 4)] := hb5
 refine ow_nil (tw_keep [(1, _), (3, _)] ⟨rfl, rfl, trivial⟩ ?_)
 refine tw_seq (tw_seq (tw_region (ow_g (g_mv rfl) rfl (ow_nil (tw_block (tw_unroll 4 ?_))))))
 refine tw_seq (tw_region (ow_g (g_lt rfl rfl) rfl ?_))
 refine ow_nil (tw_seq (tw_ifT rfl (by decide) ?_))
 refine tw_skip (tw_seq (tw_block (tw_seq (tw_region (ow_g (g_mv rfl) rfl (ow_g (g_as rfl) rfl ?_))))))
 refine ow_nil (tw_seq (tw_still 9 mixed (by decide +kernel) (fun w8 k8 => ?_)))
 replace hb2 := hb2.keep0 k8
 replace hb5 := hb5.keep0 k8
 replace hB := hB.trans k8
 refine sw_g (g_mv rfl) rfl (sw_g (g_fold (j := 1) (g_addw rfl rfl) (by decide)) rfl ?_)
 refine sw_g (g_ixa Try.underlying26 ty24 rfl rfl (by decide)) rfl ?_
 refine sw_g (g_ldb sc24 rfl hb5 rfl) rfl ?_
 refine sw_g (g_mv rfl) rfl (sw_g (g_ixa Try.underlying26 ty24 rfl rfl (by decide)) rfl ?_)
 refine sw_g (g_ldb sc24 rfl hb5 rfl) rfl ?_
 refine sw_gx (e' := z5 / 2251799813685248) (lo := 0) (hi := 1) (g_shrp (m := 2251799813685248) rfl rfl (by decide) rfl) (rfl) (In.wk (in_div r12 (by decide)) rfl) rfl (fun z7 h2 r13 => ?_)
 refine sw_gx (e' := (hh2 1) + z7) (lo := 0) (hi := 2251799813685248) (g_addw rfl rfl) (wrap_fit (in_add r7 r13) rfl) (In.wk (in_add r7 r13) rfl) rfl (fun z8 h3 r14 => ?_)
 refine sw_nil ?_
 refine ow_g (g_ixa Try.underlying26 ty24 rfl rfl (by decide)) rfl ?_
 refine ow_d0 (d_st ty24 rfl rfl rfl hb5 rfl) ?_
 rintro _ w9 ⟨hb6, k9, z9⟩
 replace hb2 := hb2.keep k9 (fun hm => absurd (List.mem_singleton.1 hm) ne_b1_b2)
 replace hB := hB.new k9 (fun x hx => .inl ((List.mem_singleton.1 hx) ▸ ge_b2))
 clear z9
 replace hb6 : Bk w9 b2 _ [.int .u64 z5, .int .u64 z8, .int .u64 (hh2 2), .int .u64 (hh2 3), .int .u64 (hh2 4)] := hb6
 refine ow_nil (tw_keep [(1, _), (3, _), (16, _), (4, _)] ⟨rfl, rfl, rfl, rfl, trivial⟩ ?_)
 refine tw_region (ow_g (g_mv rfl) rfl (ow_g (g_ixa Try.underlying26 ty24 rfl rfl (by decide)) rfl ?_))
 refine ow_g (g_ldb sc24 rfl hb6 rfl) rfl ?_
 refine ow_gx (e' := z5 % 2251799813685248) (lo := 0) (hi := 2251799813685247) (g_and rfl rfl) (and_mod 51 r12 rfl rfl rfl rfl rfl rfl) (In.wk (in_mod _ (by decide)) rfl) rfl (fun z10 h4 r15 => ?_)
 refine ow_g (g_ixa Try.underlying26 ty24 rfl rfl (by decide)) rfl ?_
 refine ow_d0 (d_st ty24 rfl rfl rfl hb6 rfl) ?_
 rintro _ w10 ⟨hb7, k10, z11⟩
 replace hb2 := hb2.keep k10 (fun hm => absurd (List.mem_singleton.1 hm) ne_b1_b2)
 replace hB := hB.new k10 (fun x hx => .inl ((List.mem_singleton.1 hx) ▸ ge_b2))
 clear z11
 replace hb7 : Bk w10 b2 _ [.int .u64 z10, .int .u64 z8, .int .u64 (hh2 2), .int .u64 (hh2 3), .int .u64 (hh2 4)] := hb7
 refine ow_nil (tw_b (tw_region (ow_g (g_fold (j := 1) (g_addw rfl rfl) (by decide)) rfl ?_)))
 refine ow_g (g_mv rfl) rfl (ow_nil (tw_lp (tw_seq (tw_region (ow_g (g_lt rfl rfl) rfl ?_)))))
 refine ow_nil (tw_seq (tw_ifT rfl (by decide) ?_))
 refine tw_skip (tw_seq (tw_block (tw_seq (tw_region (ow_g (g_mv rfl) rfl (ow_g (g_as rfl) rfl ?_))))))
 refine ow_nil (tw_seq (tw_still 9 mixed (by decide +kernel) (fun w11 k11 => ?_)))
 replace hb2 := hb2.keep0 k11
 replace hb7 := hb7.keep0 k11
 replace hB := hB.trans k11
 refine sw_g (g_mv rfl) rfl (sw_g (g_fold (j := 2) (g_addw rfl rfl) (by decide)) rfl ?_)
 refine sw_g (g_ixa Try.underlying26 ty24 rfl rfl (by decide)) rfl ?_
 refine sw_g (g_ldb sc24 rfl hb7 rfl) rfl ?_
 refine sw_g (g_mv rfl) rfl (sw_g (g_ixa Try.underlying26 ty24 rfl rfl (by decide)) rfl ?_)
 refine sw_g (g_ldb sc24 rfl hb7 rfl) rfl ?_
 refine sw_gx (e' := z8 / 2251799813685248) (lo := 0) (hi := 1) (g_shrp (m := 2251799813685248) rfl rfl (by decide) rfl) (rfl) (In.wk (in_div r14 (by decide)) rfl) rfl (fun z12 h5 r16 => ?_)
 refine sw_gx (e' := (hh2 2) + z12) (lo := 0) (hi := 2251799813685248) (g_addw rfl rfl) (wrap_fit (in_add r8 r16) rfl) (In.wk (in_add r8 r16) rfl) rfl (fun z13 h6 r17 => ?_)
 refine sw_nil ?_
 refine ow_g (g_ixa Try.underlying26 ty24 rfl rfl (by decide)) rfl ?_
 refine ow_d0 (d_st ty24 rfl rfl rfl hb7 rfl) ?_
 rintro _ w12 ⟨hb8, k12, z14⟩
 replace hb2 := hb2.keep k12 (fun hm => absurd (List.mem_singleton.1 hm) ne_b1_b2)
 replace hB := hB.new k12 (fun x hx => .inl ((List.mem_singleton.1 hx) ▸ ge_b2))
 clear z14
 replace hb8 : Bk w12 b2 _ [.int .u64 z10, .int .u64 z8, .int .u64 z13, .int .u64 (hh2 3), .int .u64 (hh2 4)] := hb8
 refine ow_nil (tw_keep [(1, _), (3, _), (16, _), (4, _)] ⟨rfl, rfl, rfl, rfl, trivial⟩ ?_)
 refine tw_region (ow_g (g_mv rfl) rfl (ow_g (g_ixa Try.underlying26 ty24 rfl rfl (by decide)) rfl ?_))
 refine ow_g (g_ldb sc24 rfl hb8 rfl) rfl ?_
 refine ow_gx (e' := z8 % 2251799813685248) (lo := 0) (hi := 2251799813685247) (g_and rfl rfl) (and_mod 51 r14 rfl rfl rfl rfl rfl rfl) (In.wk (in_mod _ (by decide)) rfl) rfl (fun z15 h7 r18 => ?_)
 refine ow_g (g_ixa Try.underlying26 ty24 rfl rfl (by decide)) rfl ?_
 refine ow_d0 (d_st ty24 rfl rfl rfl hb8 rfl) ?_
 rintro _ w13 ⟨hb9, k13, z16⟩
 replace hb2 := hb2.keep k13 (fun hm => absurd (List.mem_singleton.1 hm) ne_b1_b2)
 replace hB := hB.new k13 (fun x hx => .inl ((List.mem_singleton.1 hx) ▸ ge_b2))
 clear z16
 replace hb9 : Bk w13 b2 _ [.int .u64 z10, .int .u64 z15, .int .u64 z13, .int .u64 (hh2 3), .int .u64 (hh2 4)] := hb9
 refine ow_nil (tw_b (tw_region (ow_g (g_fold (j := 2) (g_addw rfl rfl) (by decide)) rfl ?_)))
 refine ow_g (g_mv rfl) rfl (ow_nil (tw_lp (tw_seq (tw_region (ow_g (g_lt rfl rfl) rfl ?_)))))
 refine ow_nil (tw_seq (tw_ifT rfl (by decide) ?_))
 refine tw_skip (tw_seq (tw_block (tw_seq (tw_region (ow_g (g_mv rfl) rfl (ow_g (g_as rfl) rfl ?_))))))
 refine ow_nil (tw_seq (tw_still 9 mixed (by decide +kernel) (fun w14 k14 => ?_)))
 replace hb2 := hb2.keep0 k14
 replace hb9 := hb9.keep0 k14
 replace hB := hB.trans k14
 refine sw_g (g_mv rfl) rfl (sw_g (g_fold (j := 3) (g_addw rfl rfl) (by decide)) rfl ?_)
 refine sw_g (g_ixa Try.underlying26 ty24 rfl rfl (by decide)) rfl ?_
 refine sw_g (g_ldb sc24 rfl hb9 rfl) rfl ?_
 refine sw_g (g_mv rfl) rfl (sw_g (g_ixa Try.underlying26 ty24 rfl rfl (by decide)) rfl ?_)
 refine sw_g (g_ldb sc24 rfl hb9 rfl) rfl ?_
 refine sw_gx (e' := z13 / 2251799813685248) (lo := 0) (hi := 1) (g_shrp (m := 2251799813685248) rfl rfl (by decide) rfl) (rfl) (In.wk (in_div r17 (by decide)) rfl) rfl (fun z17 h8 r19 => ?_)
 refine sw_gx (e' := (hh2 3) + z17) (lo := 0) (hi := 2251799813685248) (g_addw rfl rfl) (wrap_fit (in_add r9 r19) rfl) (In.wk (in_add r9 r19) rfl) rfl (fun z18 h9 r20 => ?_)
 refine sw_nil ?_
 refine ow_g (g_ixa Try.underlying26 ty24 rfl rfl (by decide)) rfl ?_
 refine ow_d0 (d_st ty24 rfl rfl rfl hb9 rfl) ?_
 rintro _ w15 ⟨hb10, k15, z19⟩
 replace hb2 := hb2.keep k15 (fun hm => absurd (List.mem_singleton.1 hm) ne_b1_b2)
 replace hB := hB.new k15 (fun x hx => .inl ((List.mem_singleton.1 hx) ▸ ge_b2))
 clear z19
 replace hb10 : Bk w15 b2 _ [.int .u64 z10, .int .u64 z15, .int .u64 z13, .int .u64 z18, .int .u64 (hh2 4)] := hb10
 refine ow_nil (tw_keep [(1, _), (3, _), (16, _), (4, _)] ⟨rfl, rfl, rfl, rfl, trivial⟩ ?_)
 refine tw_region (ow_g (g_mv rfl) rfl (ow_g (g_ixa Try.underlying26 ty24 rfl rfl (by decide)) rfl ?_))
 refine ow_g (g_ldb sc24 rfl hb10 rfl) rfl ?_
 refine ow_gx (e' := z13 % 2251799813685248) (lo := 0) (hi := 2251799813685247) (g_and rfl rfl) (and_mod 51 r17 rfl rfl rfl rfl rfl rfl) (In.wk (in_mod _ (by decide)) rfl) rfl (fun z20 h10 r21 => ?_)
 refine ow_g (g_ixa Try.underlying26 ty24 rfl rfl (by decide)) rfl ?_
 refine ow_d0 (d_st ty24 rfl rfl rfl hb10 rfl) ?_
 rintro _ w16 ⟨hb11, k16, z21⟩
 replace hb2 := hb2.keep k16 (fun hm => absurd (List.mem_singleton.1 hm) ne_b1_b2)
 replace hB := hB.new k16 (fun x hx => .inl ((List.mem_singleton.1 hx) ▸ ge_b2))
 clear z21
 replace hb11 : Bk w16 b2 _ [.int .u64 z10, .int .u64 z15, .int .u64 z20, .int .u64 z18, .int .u64 (hh2 4)] := hb11
 refine ow_nil (tw_b (tw_region (ow_g (g_fold (j := 3) (g_addw rfl rfl) (by decide)) rfl ?_)))
 refine ow_g (g_mv rfl) rfl (ow_nil (tw_lp (tw_seq (tw_region (ow_g (g_lt rfl rfl) rfl ?_)))))
 refine ow_nil (tw_seq (tw_ifT rfl (by decide) ?_))
 refine tw_skip (tw_seq (tw_block (tw_seq (tw_region (ow_g (g_mv rfl) rfl (ow_g (g_as rfl) rfl ?_))))))
 refine ow_nil (tw_seq (tw_still 9 mixed (by decide +kernel) (fun w17 k17 => ?_)))
 replace hb2 := hb2.keep0 k17
 replace hb11 := hb11.keep0 k17
 replace hB := hB.trans k17
 refine sw_g (g_mv rfl) rfl (sw_g (g_fold (j := 4) (g_addw rfl rfl) (by decide)) rfl ?_)
 refine sw_g (g_ixa Try.underlying26 ty24 rfl rfl (by decide)) rfl ?_
 refine sw_g (g_ldb sc24 rfl hb11 rfl) rfl ?_
 refine sw_g (g_mv rfl) rfl (sw_g (g_ixa Try.underlying26 ty24 rfl rfl (by decide)) rfl ?_)
 refine sw_g (g_ldb sc24 rfl hb11 rfl) rfl ?_
 refine sw_gx (e' := z18 / 2251799813685248) (lo := 0) (hi := 1) (g_shrp (m := 2251799813685248) rfl rfl (by decide) rfl) (rfl) (In.wk (in_div r20 (by decide)) rfl) rfl (fun z22 h11 r22 => ?_)
 refine sw_gx (e' := (hh2 4) + z22) (lo := 0) (hi := 2251799813685248) (g_addw rfl rfl) (wrap_fit (in_add r10 r22) rfl) (In.wk (in_add r10 r22) rfl) rfl (fun z23 h12 r23 => ?_)
 refine sw_nil ?_
 refine ow_g (g_ixa Try.underlying26 ty24 rfl rfl (by decide)) rfl ?_
 refine ow_d0 (d_st ty24 rfl rfl rfl hb11 rfl) ?_
 rintro _ w18 ⟨hb12, k18, z24⟩
 replace hb2 := hb2.keep k18 (fun hm => absurd (List.mem_singleton.1 hm) ne_b1_b2)
 replace hB := hB.new k18 (fun x hx => .inl ((List.mem_singleton.1 hx) ▸ ge_b2))
 clear z24
 replace hb12 : Bk w18 b2 _ [.int .u64 z10, .int .u64 z15, .int .u64 z20, .int .u64 z18, .int .u64 z23] := hb12
 refine ow_nil (tw_keep [(1, _), (3, _), (16, _), (4, _)] ⟨rfl, rfl, rfl, rfl, trivial⟩ ?_)
 refine tw_region (ow_g (g_mv rfl) rfl (ow_g (g_ixa Try.underlying26 ty24 rfl rfl (by decide)) rfl ?_))
 refine ow_g (g_ldb sc24 rfl hb12 rfl) rfl ?_
 refine ow_gx (e' := z18 % 2251799813685248) (lo := 0) (hi := 2251799813685247) (g_and rfl rfl) (and_mod 51 r20 rfl rfl rfl rfl rfl rfl) (In.wk (in_mod _ (by decide)) rfl) rfl (fun z25 h13 r24 => ?_)
 refine ow_g (g_ixa Try.underlying26 ty24 rfl rfl (by decide)) rfl ?_
 refine ow_d0 (d_st ty24 rfl rfl rfl hb12 rfl) ?_
 rintro _ w19 ⟨hb13, k19, z26⟩
 replace hb2 := hb2.keep k19 (fun hm => absurd (List.mem_singleton.1 hm) ne_b1_b2)
 replace hB := hB.new k19 (fun x hx => .inl ((List.mem_singleton.1 hx) ▸ ge_b2))
 clear z26
 replace hb13 : Bk w19 b2 _ [.int .u64 z10, .int .u64 z15, .int .u64 z20, .int .u64 z25, .int .u64 z23] := hb13
 refine ow_nil (tw_b (tw_region (ow_g (g_fold (j := 4) (g_addw rfl rfl) (by decide)) rfl ?_)))
 refine ow_g (g_mv rfl) rfl (ow_nil (tw_lp (tw_seq (tw_region (ow_g (g_lt rfl rfl) rfl ?_)))))
 refine ow_nil (tw_seq (tw_ifF rfl (by decide) ?_))
 refine tw_exit rfl ?_
 refine tw_seq (tw_seq (tw_region (ow_g (g_ixa Try.underlying26 ty24 rfl rfl (by decide)) rfl ?_)))
 refine ow_g (g_ldb sc24 rfl hb13 rfl) rfl ?_
 refine ow_gx (e' := z23 / 2251799813685248) (lo := 0) (hi := 1) (g_shrp (m := 2251799813685248) rfl rfl (by decide) rfl) (rfl) (In.wk (in_div r23 (by decide)) rfl) rfl (fun z27 h14 r25 => ?_)
 refine ow_g (g_ne rfl rfl) rfl ?_
 refine ow_nil (tw_keep [(1, _), (3, _), (38, _)] ⟨rfl, rfl, rfl, trivial⟩ ?_)
 refine tw_if rfl (fun hc1 => ?_) (fun hc1 => ?_)
 ·
  refine tw_seq (tw_region (ow_g (g_ixa Try.underlying26 ty24 rfl rfl (by decide)) rfl ?_))
  refine ow_g (g_ldb sc24 rfl hb13 rfl) rfl ?_
  refine ow_gx (e' := z23 % 2251799813685248) (lo := 0) (hi := 2251799813685247) (g_and rfl rfl) (and_mod 51 r23 rfl rfl rfl rfl rfl rfl) (In.wk (in_mod _ (by decide)) rfl) rfl (fun z28 h15 r26 => ?_)
  refine ow_g (g_ixa Try.underlying26 ty24 rfl rfl (by decide)) rfl ?_
  refine ow_d0 (d_st ty24 rfl rfl rfl hb13 rfl) ?_
  rintro _ w20 ⟨hb14, k20, z29⟩
  replace hb2 := hb2.keep k20 (fun hm => absurd (List.mem_singleton.1 hm) ne_b1_b2)
  replace hB := hB.new k20 (fun x hx => .inl ((List.mem_singleton.1 hx) ▸ ge_b2))
  clear z29
  replace hb14 : Bk w20 b2 _ [.int .u64 z10, .int .u64 z15, .int .u64 z20, .int .u64 z25, .int .u64 z28] := hb14
  refine ow_nil (tw_region (ow_g (g_ldab (cs' := [_, _, _, _, _]) ag26 ty26 rfl hb14 rfl rfl) rfl ?_))
  refine ow_d0 (d_sta ty26 rfl rfl rfl (by simp only [List.forall_mem_cons]; refine ⟨rfl, rfl, rfl, rfl, rfl, fun v hv => by cases hv⟩) hb2 rfl) ?_
  rintro _ w21 ⟨hb15, k21, z30⟩
  replace hb14 := hb14.keep k21 (fun hm => absurd (List.mem_singleton.1 hm) (Ne.symm ne_b1_b2))
  replace hB := hB.new k21 (fun x hx => .inl ((List.mem_singleton.1 hx) ▸ ge_b1))
  clear z30
  replace hb15 : Bk w21 b1 _ [.int .u64 z10, .int .u64 z15, .int .u64 z20, .int .u64 z25, .int .u64 z28] := hb15
  refine ow_nil (tw_seq (tw_region (ow_g (g_ixa Try.underlying26 ty24 rfl rfl (by decide)) rfl ?_)))
  refine ow_g (g_ldb sc24 rfl hb15 rfl) rfl ?_
  refine ow_g (g_ixa Try.underlying26 ty24 rfl rfl (by decide)) rfl ?_
  refine ow_g (g_ldb sc24 rfl hb15 rfl) rfl ?_
  refine ow_gx (e' := (z15 * 2251799813685248) % 18446744073709551616) (lo := 0) (hi := 18446744073709551615) (g_shlp (m := 2251799813685248) rfl rfl (by decide) rfl) (wrap_uns rfl _) (In.wk (in_mod _ (by decide)) rfl) rfl (fun z31 h16 r27 => ?_)
  refine ow_gx (e' := z10 + z31) (lo := 0) (hi := 18446744073709551615) (g_or rfl rfl) (or_join' 51 (m := 2251799813685248) r27 rfl r15 rfl rfl rfl rfl (eq_mod h16 (mul_mod_mod _ (by decide))) rfl rfl) (In.wk (or_in (k := .u64) rfl (or_join' 51 (m := 2251799813685248) r27 rfl r15 rfl rfl rfl rfl (eq_mod h16 (mul_mod_mod _ (by decide))) rfl rfl)) rfl) rfl (fun z32 h17 r28 => ?_)
  refine ow_g (g_ixa Try.underlying26 ty24 rfl rfl (by decide)) rfl ?_
  refine ow_g (g_ldb sc24 rfl hb15 rfl) rfl ?_
  refine ow_gx (e' := z15 / 8192) (lo := 0) (hi := 274877906943) (g_shrp (m := 8192) rfl rfl (by decide) rfl) (rfl) (In.wk (in_div r18 (by decide)) rfl) rfl (fun z33 h18 r29 => ?_)
  refine ow_g (g_ixa Try.underlying26 ty24 rfl rfl (by decide)) rfl ?_
  refine ow_g (g_ldb sc24 rfl hb15 rfl) rfl ?_
  refine ow_gx (e' := (z20 * 274877906944) % 18446744073709551616) (lo := 0) (hi := 18446744073709551615) (g_shlp (m := 274877906944) rfl rfl (by decide) rfl) (wrap_uns rfl _) (In.wk (in_mod _ (by decide)) rfl) rfl (fun z34 h19 r30 => ?_)
  refine ow_gx (e' := z33 + z34) (lo := 0) (hi := 18446744073709551615) (g_or rfl rfl) (or_join' 38 (m := 274877906944) r30 rfl r29 rfl rfl rfl rfl (eq_mod h19 (mul_mod_mod _ (by decide))) rfl rfl) (In.wk (or_in (k := .u64) rfl (or_join' 38 (m := 274877906944) r30 rfl r29 rfl rfl rfl rfl (eq_mod h19 (mul_mod_mod _ (by decide))) rfl rfl)) rfl) rfl (fun z35 h20 r31 => ?_)
  refine ow_g (g_ixa Try.underlying26 ty24 rfl rfl (by decide)) rfl ?_
  refine ow_g (g_ldb sc24 rfl hb15 rfl) rfl ?_
  refine ow_gx (e' := z20 / 67108864) (lo := 0) (hi := 33554431) (g_shrp (m := 67108864) rfl rfl (by decide) rfl) (rfl) (In.wk (in_div r21 (by decide)) rfl) rfl (fun z36 h21 r32 => ?_)
  refine ow_g (g_ixa Try.underlying26 ty24 rfl rfl (by decide)) rfl ?_
  refine ow_g (g_ldb sc24 rfl hb15 rfl) rfl ?_
  refine ow_gx (e' := (z25 * 33554432) % 18446744073709551616) (lo := 0) (hi := 18446744073709551615) (g_shlp (m := 33554432) rfl rfl (by decide) rfl) (wrap_uns rfl _) (In.wk (in_mod _ (by decide)) rfl) rfl (fun z37 h22 r33 => ?_)
  refine ow_gx (e' := z36 + z37) (lo := 0) (hi := 18446744073709551615) (g_or rfl rfl) (or_join' 25 (m := 33554432) r33 rfl r32 rfl rfl rfl rfl (eq_mod h22 (mul_mod_mod _ (by decide))) rfl rfl) (In.wk (or_in (k := .u64) rfl (or_join' 25 (m := 33554432) r33 rfl r32 rfl rfl rfl rfl (eq_mod h22 (mul_mod_mod _ (by decide))) rfl rfl)) rfl) rfl (fun z38 h23 r34 => ?_)
  refine ow_g (g_ixa Try.underlying26 ty24 rfl rfl (by decide)) rfl ?_
  refine ow_g (g_ldb sc24 rfl hb15 rfl) rfl ?_
  refine ow_gx (e' := z25 / 549755813888) (lo := 0) (hi := 4095) (g_shrp (m := 549755813888) rfl rfl (by decide) rfl) (rfl) (In.wk (in_div r24 (by decide)) rfl) rfl (fun z39 h24 r35 => ?_)
  refine ow_g (g_ixa Try.underlying26 ty24 rfl rfl (by decide)) rfl ?_
  refine ow_g (g_ldb sc24 rfl hb15 rfl) rfl ?_
  refine ow_gx (e' := z28 * 4096) (lo := 0) (hi := 9223372036854771712) (g_shlp (m := 4096) rfl rfl (by decide) rfl) (wrap_fit (in_mulc r26 (by decide)) rfl) (In.wk (in_mulc r26 (by decide)) rfl) rfl (fun z40 h25 r36 => ?_)
  refine ow_gx (e' := z39 + z40) (lo := 0) (hi := 9223372036854775807) (g_or rfl rfl) (or_join' 12 (m := 4096) r36 rfl r35 rfl rfl rfl rfl (eq_mod h25 (Int.mul_emod_left _ _)) rfl rfl) (In.wk (in_add r35 r36) rfl) rfl (fun z41 h26 r37 => ?_)
  refine ow_g (g_blda (idx := [0, 1, 2, 3]) (xs := [.tmp 49, .tmp 56, .tmp 63, .tmp 70]) (vs := [_, _, _, _]) (css := [[.int .u64 z32], [.int .u64 z35], [.int .u64 z38], [.int .u64 z41]]) (out := [.int .u64 z32, .int .u64 z35, .int .u64 z38, .int .u64 z41]) Try.underlying104 ty24 ty104 (arr_pls 4 1) rfl rfl ⟨rfl, rfl, rfl, rfl, trivial⟩ rfl rfl) rfl ?_
  refine ow_d (d_alloc ty104) rfl ?_
  rintro _ w22 ⟨b3, rfl, eb3, hb16, k22, z42⟩
  have ge_b3 : w.heap.size ≤ b3 := by have := hB.size; omega
  have ne_b1_b3 : b1 ≠ b3 := by have := hb15.lt; omega
  replace hb15 := hb15.keep0 k22
  replace hB := hB.trans k22
  clear eb3 z42
  refine ow_d0 (d_sta ty104 rfl rfl rfl (by simp only [List.forall_mem_cons]; refine ⟨rfl, rfl, rfl, rfl, fun v hv => by cases hv⟩) hb16 rfl) ?_
  rintro _ w23 ⟨hb17, k23, z43⟩
  replace hb15 := hb15.keep k23 (fun hm => absurd (List.mem_singleton.1 hm) ne_b1_b3)
  replace hB := hB.new k23 (fun x hx => .inl ((List.mem_singleton.1 hx) ▸ ge_b3))
  clear z43
  replace hb17 : Bk w23 b3 _ [.int .u64 z32, .int .u64 z35, .int .u64 z38, .int .u64 z41] := hb17
  refine ow_nil (tw_seq (tw_region (ow_d (d_mk Try.underlying22 ty5 rfl rfl (by omega) (by constructor <;> omega)) rfl ?_)))
  rintro v1 w24 ⟨o1, nn1, lb1, k24, z44⟩
  have go_v1 := fun x hx => (show w.heap.size ≤ x from by have h1 := (o1.blk x hx).1; have h2 := hB.size; omega)
  have gl_v1 := hB.size
  have gl_o1 := hB.size
  have sb_b1_o1 := fun x hx => (show x ≠ b1 from by have h1 := (o1.blk x hx).1; have h2 := hb15.lt; omega)
  have sb_b3_o1 := fun x hx => (show x ≠ b3 from by have h1 := (o1.blk x hx).1; have h2 := hb17.lt; omega)
  replace hb15 := hb15.keep0 k24
  replace hb17 := hb17.keep0 k24
  replace hB := hB.trans k24
  have u_o1 := o1.blk
  replace o1 : Own w24 _ 5 1 v1 32 [.int .u8 0, .int .u8 0, .int .u8 0, .int .u8 0, .int .u8 0, .int .u8 0, .int .u8 0, .int .u8 0, .int .u8 0, .int .u8 0, .int .u8 0, .int .u8 0, .int .u8 0, .int .u8 0, .int .u8 0, .int .u8 0, .int .u8 0, .int .u8 0, .int .u8 0, .int .u8 0, .int .u8 0, .int .u8 0, .int .u8 0, .int .u8 0, .int .u8 0, .int .u8 0, .int .u8 0, .int .u8 0, .int .u8 0, .int .u8 0, .int .u8 0, .int .u8 0] := o1
  refine ow_g (g_as rfl) rfl (ow_nil (tw_keep [(5, _), (6, _)] ⟨rfl, rfl, trivial⟩ ?_))
  refine tw_seq (tw_seq (tw_region (ow_g (g_mv rfl) rfl (ow_g (g_len Try.underlying22 rfl (by first | assumption | exact Own.rd ‹_› | exact Rd.keep0 ‹_› hB | exact Own.rd (Own.keep0 ‹_› hB))) rfl ?_))))
  refine ow_g (g_mv rfl) rfl (ow_nil (tw_block (tw_unroll 32 ?_)))
  refine tw_seq (tw_region (ow_g (g_lt rfl rfl) rfl ?_))
  refine ow_nil (tw_seq (tw_ifT rfl (by decide) ?_))
  refine tw_skip (tw_seq (tw_block (tw_seq (tw_region (ow_g (g_mv rfl) rfl (ow_g (g_as rfl) rfl ?_))))))
  refine ow_nil (tw_region (ow_g (g_mv rfl) rfl (ow_g (g_mv rfl) rfl (ow_g (g_mv rfl) rfl (ow_g (g_fold (j := 0) (g_quo rfl rfl (by decide)) (by decide)) rfl ?_)))))
  refine ow_g (g_ixa Try.underlying104 ty24 rfl rfl (by decide)) rfl ?_
  refine ow_g (g_ldb sc24 rfl hb17 rfl) rfl ?_
  refine ow_g (g_mv rfl) rfl (ow_g (g_fold (j := 0) (g_rem rfl rfl (by decide)) (by decide)) rfl ?_)
  refine ow_g (g_fold (j := 0) (g_mulw rfl rfl) (by decide)) rfl ?_
  refine ow_gx (e' := z32 / 1) (lo := 0) (hi := 18446744073709551615) (g_shrp (m := 1) rfl rfl (by decide) rfl) (rfl) (In.wk (in_div r28 (by decide)) rfl) rfl (fun z45 h27 r38 => ?_)
  refine ow_gx (e' := z45 % 256) (lo := 0) (hi := 255) (g_cv (by rw [Try.underlying24]; rfl) Try.underlying5 rfl) (wrap_uns rfl _) (In.wk (in_mod _ (by decide)) rfl) rfl (fun z46 h28 r39 => ?_)
  refine ow_g (g_ix Try.underlying22 ty5 rfl (by first | assumption | exact Own.rd ‹_› | exact Rd.keep0 ‹_› hB | exact Own.rd (Own.keep0 ‹_› hB)) rfl (by omega)) rfl ?_
  refine ow_d0 (d_sto (u := .int .u8 z46) ty5 rfl rfl rfl o1 (blt_lt rfl)) ?_
  rintro _ w25 ⟨o2, k25, z47⟩
  have z_k25 := k25.size
  replace o2 : Own w25 _ 5 1 v1 32 [.int .u8 z46, .int .u8 0, .int .u8 0, .int .u8 0, .int .u8 0, .int .u8 0, .int .u8 0, .int .u8 0, .int .u8 0, .int .u8 0, .int .u8 0, .int .u8 0, .int .u8 0, .int .u8 0, .int .u8 0, .int .u8 0, .int .u8 0, .int .u8 0, .int .u8 0, .int .u8 0, .int .u8 0, .int .u8 0, .int .u8 0, .int .u8 0, .int .u8 0, .int .u8 0, .int .u8 0, .int .u8 0, .int .u8 0, .int .u8 0, .int .u8 0, .int .u8 0] := o2
  replace hb17 := hb17.keep k25 (fun hm => sb_b3_o1 _ hm rfl)
  replace hB := hB.new k25 (fun x hx => .inl (go_v1 x hx))
  clear z_k25 z47
  refine ow_nil (tw_keep [(5, _), (6, _), (74, _), (75, _)] ⟨rfl, rfl, rfl, rfl, trivial⟩ ?_)
  refine tw_b (tw_region (ow_g (g_fold (j := 1) (g_addw rfl rfl) (by decide)) rfl ?_))
  refine ow_g (g_mv rfl) rfl (ow_nil (tw_lp (tw_seq (tw_region (ow_g (g_lt rfl rfl) rfl ?_)))))
  refine ow_nil (tw_seq (tw_ifT rfl (by decide) ?_))
  refine tw_skip (tw_seq (tw_block (tw_seq (tw_region (ow_g (g_mv rfl) rfl (ow_g (g_as rfl) rfl ?_))))))
  refine ow_nil (tw_region (ow_g (g_mv rfl) rfl (ow_g (g_mv rfl) rfl (ow_g (g_mv rfl) rfl (ow_g (g_fold (j := 0) (g_quo rfl rfl (by decide)) (by decide)) rfl ?_)))))
  refine ow_g (g_ixa Try.underlying104 ty24 rfl rfl (by decide)) rfl ?_
  refine ow_g (g_ldb sc24 rfl hb17 rfl) rfl ?_
  refine ow_g (g_mv rfl) rfl (ow_g (g_fold (j := 1) (g_rem rfl rfl (by decide)) (by decide)) rfl ?_)
  refine ow_g (g_fold (j := 8) (g_mulw rfl rfl) (by decide)) rfl ?_
  refine ow_gx (e' := z32 / 256) (lo := 0) (hi := 72057594037927935) (g_shrp (m := 256) rfl rfl (by decide) rfl) (rfl) (In.wk (in_div r28 (by decide)) rfl) rfl (fun z48 h29 r40 => ?_)
  refine ow_gx (e' := z48 % 256) (lo := 0) (hi := 255) (g_cv (by rw [Try.underlying24]; rfl) Try.underlying5 rfl) (wrap_uns rfl _) (In.wk (in_mod _ (by decide)) rfl) rfl (fun z49 h30 r41 => ?_)
  refine ow_g (g_ix Try.underlying22 ty5 rfl (by first | assumption | exact Own.rd ‹_› | exact Rd.keep0 ‹_› hB | exact Own.rd (Own.keep0 ‹_› hB)) rfl (by omega)) rfl ?_
  refine ow_d0 (d_sto (u := .int .u8 z49) ty5 rfl rfl rfl o2 (blt_lt rfl)) ?_
  rintro _ w26 ⟨o3, k26, z50⟩
  have z_k26 := k26.size
  replace o3 : Own w26 _ 5 1 v1 32 [.int .u8 z46, .int .u8 z49, .int .u8 0, .int .u8 0, .int .u8 0, .int .u8 0, .int .u8 0, .int .u8 0, .int .u8 0, .int .u8 0, .int .u8 0, .int .u8 0, .int .u8 0, .int .u8 0, .int .u8 0, .int .u8 0, .int .u8 0, .int .u8 0, .int .u8 0, .int .u8 0, .int .u8 0, .int .u8 0, .int .u8 0, .int .u8 0, .int .u8 0, .int .u8 0, .int .u8 0, .int .u8 0, .int .u8 0, .int .u8 0, .int .u8 0, .int .u8 0] := o3
  replace hb17 := hb17.keep k26 (fun hm => sb_b3_o1 _ hm rfl)
  replace hB := hB.new k26 (fun x hx => .inl (go_v1 x hx))
  clear z_k26 z50
  refine ow_nil (tw_keep [(5, _), (6, _), (74, _), (75, _)] ⟨rfl, rfl, rfl, rfl, trivial⟩ ?_)
  refine tw_b (tw_region (ow_g (g_fold (j := 2) (g_addw rfl rfl) (by decide)) rfl ?_))
  refine ow_g (g_mv rfl) rfl (ow_nil (tw_lp (tw_seq (tw_region (ow_g (g_lt rfl rfl) rfl ?_)))))
  refine ow_nil (tw_seq (tw_ifT rfl (by decide) ?_))
  refine tw_skip (tw_seq (tw_block (tw_seq (tw_region (ow_g (g_mv rfl) rfl (ow_g (g_as rfl) rfl ?_))))))
  refine ow_nil (tw_region (ow_g (g_mv rfl) rfl (ow_g (g_mv rfl) rfl (ow_g (g_mv rfl) rfl (ow_g (g_fold (j := 0) (g_quo rfl rfl (by decide)) (by decide)) rfl ?_)))))
  refine ow_g (g_ixa Try.underlying104 ty24 rfl rfl (by decide)) rfl ?_
  refine ow_g (g_ldb sc24 rfl hb17 rfl) rfl ?_
  refine ow_g (g_mv rfl) rfl (ow_g (g_fold (j := 2) (g_rem rfl rfl (by decide)) (by decide)) rfl ?_)
  refine ow_g (g_fold (j := 16) (g_mulw rfl rfl) (by decide)) rfl ?_
  refine ow_gx (e' := z32 / 65536) (lo := 0) (hi := 281474976710655) (g_shrp (m := 65536) rfl rfl (by decide) rfl) (rfl) (In.wk (in_div r28 (by decide)) rfl) rfl (fun z51 h31 r42 => ?_)
  refine ow_gx (e' := z51 % 256) (lo := 0) (hi := 255) (g_cv (by rw [Try.underlying24]; rfl) Try.underlying5 rfl) (wrap_uns rfl _) (In.wk (in_mod _ (by decide)) rfl) rfl (fun z52 h32 r43 => ?_)
  refine ow_g (g_ix Try.underlying22 ty5 rfl (by first | assumption | exact Own.rd ‹_› | exact Rd.keep0 ‹_› hB | exact Own.rd (Own.keep0 ‹_› hB)) rfl (by omega)) rfl ?_
  refine ow_d0 (d_sto (u := .int .u8 z52) ty5 rfl rfl rfl o3 (blt_lt rfl)) ?_
  rintro _ w27 ⟨o4, k27, z53⟩
  have z_k27 := k27.size
  replace o4 : Own w27 _ 5 1 v1 32 [.int .u8 z46, .int .u8 z49, .int .u8 z52, .int .u8 0, .int .u8 0, .int .u8 0, .int .u8 0, .int .u8 0, .int .u8 0, .int .u8 0, .int .u8 0, .int .u8 0, .int .u8 0, .int .u8 0, .int .u8 0, .int .u8 0, .int .u8 0, .int .u8 0, .int .u8 0, .int .u8 0, .int .u8 0, .int .u8 0, .int .u8 0, .int .u8 0, .int .u8 0, .int .u8 0, .int .u8 0, .int .u8 0, .int .u8 0, .int .u8 0, .int .u8 0, .int .u8 0] := o4
  replace hb17 := hb17.keep k27 (fun hm => sb_b3_o1 _ hm rfl)
  replace hB := hB.new k27 (fun x hx => .inl (go_v1 x hx))
  clear z_k27 z53
  refine ow_nil (tw_keep [(5, _), (6, _), (74, _), (75, _)] ⟨rfl, rfl, rfl, rfl, trivial⟩ ?_)
  refine tw_b (tw_region (ow_g (g_fold (j := 3) (g_addw rfl rfl) (by decide)) rfl ?_))
  refine ow_g (g_mv rfl) rfl (ow_nil (tw_lp (tw_seq (tw_region (ow_g (g_lt rfl rfl) rfl ?_)))))
  refine ow_nil (tw_seq (tw_ifT rfl (by decide) ?_))
  refine tw_skip (tw_seq (tw_block (tw_seq (tw_region (ow_g (g_mv rfl) rfl (ow_g (g_as rfl) rfl ?_))))))
  refine ow_nil (tw_region (ow_g (g_mv rfl) rfl (ow_g (g_mv rfl) rfl (ow_g (g_mv rfl) rfl (ow_g (g_fold (j := 0) (g_quo rfl rfl (by decide)) (by decide)) rfl ?_)))))
  refine ow_g (g_ixa Try.underlying104 ty24 rfl rfl (by decide)) rfl ?_
  refine ow_g (g_ldb sc24 rfl hb17 rfl) rfl ?_
  refine ow_g (g_mv rfl) rfl (ow_g (g_fold (j := 3) (g_rem rfl rfl (by decide)) (by decide)) rfl ?_)
  refine ow_g (g_fold (j := 24) (g_mulw rfl rfl) (by decide)) rfl ?_
  refine ow_gx (e' := z32 / 16777216) (lo := 0) (hi := 1099511627775) (g_shrp (m := 16777216) rfl rfl (by decide) rfl) (rfl) (In.wk (in_div r28 (by decide)) rfl) rfl (fun z54 h33 r44 => ?_)
  refine ow_gx (e' := z54 % 256) (lo := 0) (hi := 255) (g_cv (by rw [Try.underlying24]; rfl) Try.underlying5 rfl) (wrap_uns rfl _) (In.wk (in_mod _ (by decide)) rfl) rfl (fun z55 h34 r45 => ?_)
  refine ow_g (g_ix Try.underlying22 ty5 rfl (by first | assumption | exact Own.rd ‹_› | exact Rd.keep0 ‹_› hB | exact Own.rd (Own.keep0 ‹_› hB)) rfl (by omega)) rfl ?_
  refine ow_d0 (d_sto (u := .int .u8 z55) ty5 rfl rfl rfl o4 (blt_lt rfl)) ?_
  rintro _ w28 ⟨o5, k28, z56⟩
  have z_k28 := k28.size
  replace o5 : Own w28 _ 5 1 v1 32 [.int .u8 z46, .int .u8 z49, .int .u8 z52, .int .u8 z55, .int .u8 0, .int .u8 0, .int .u8 0, .int .u8 0, .int .u8 0, .int .u8 0, .int .u8 0, .int .u8 0, .int .u8 0, .int .u8 0, .int .u8 0, .int .u8 0, .int .u8 0, .int .u8 0, .int .u8 0, .int .u8 0, .int .u8 0, .int .u8 0, .int .u8 0, .int .u8 0, .int .u8 0, .int .u8 0, .int .u8 0, .int .u8 0, .int .u8 0, .int .u8 0, .int .u8 0, .int .u8 0] := o5
  replace hb17 := hb17.keep k28 (fun hm => sb_b3_o1 _ hm rfl)
  replace hB := hB.new k28 (fun x hx => .inl (go_v1 x hx))
  clear z_k28 z56
  refine ow_nil (tw_keep [(5, _), (6, _), (74, _), (75, _)] ⟨rfl, rfl, rfl, rfl, trivial⟩ ?_)
  refine tw_b (tw_region (ow_g (g_fold (j := 4) (g_addw rfl rfl) (by decide)) rfl ?_))
  refine ow_g (g_mv rfl) rfl (ow_nil (tw_lp (tw_seq (tw_region (ow_g (g_lt rfl rfl) rfl ?_)))))
  refine ow_nil (tw_seq (tw_ifT rfl (by decide) ?_))
  refine tw_skip (tw_seq (tw_block (tw_seq (tw_region (ow_g (g_mv rfl) rfl (ow_g (g_as rfl) rfl ?_))))))
  refine ow_nil (tw_region (ow_g (g_mv rfl) rfl (ow_g (g_mv rfl) rfl (ow_g (g_mv rfl) rfl (ow_g (g_fold (j := 0) (g_quo rfl rfl (by decide)) (by decide)) rfl ?_)))))
  refine ow_g (g_ixa Try.underlying104 ty24 rfl rfl (by decide)) rfl ?_
  refine ow_g (g_ldb sc24 rfl hb17 rfl) rfl ?_
  refine ow_g (g_mv rfl) rfl (ow_g (g_fold (j := 4) (g_rem rfl rfl (by decide)) (by decide)) rfl ?_)
  refine ow_g (g_fold (j := 32) (g_mulw rfl rfl) (by decide)) rfl ?_
  refine ow_gx (e' := z32 / 4294967296) (lo := 0) (hi := 4294967295) (g_shrp (m := 4294967296) rfl rfl (by decide) rfl) (rfl) (In.wk (in_div r28 (by decide)) rfl) rfl (fun z57 h35 r46 => ?_)
  refine ow_gx (e' := z57 % 256) (lo := 0) (hi := 255) (g_cv (by rw [Try.underlying24]; rfl) Try.underlying5 rfl) (wrap_uns rfl _) (In.wk (in_mod _ (by decide)) rfl) rfl (fun z58 h36 r47 => ?_)
  refine ow_g (g_ix Try.underlying22 ty5 rfl (by first | assumption | exact Own.rd ‹_› | exact Rd.keep0 ‹_› hB | exact Own.rd (Own.keep0 ‹_› hB)) rfl (by omega)) rfl ?_
  refine ow_d0 (d_sto (u := .int .u8 z58) ty5 rfl rfl rfl o5 (blt_lt rfl)) ?_
  rintro _ w29 ⟨o6, k29, z59⟩
  have z_k29 := k29.size
  replace o6 : Own w29 _ 5 1 v1 32 [.int .u8 z46, .int .u8 z49, .int .u8 z52, .int .u8 z55, .int .u8 z58, .int .u8 0, .int .u8 0, .int .u8 0, .int .u8 0, .int .u8 0, .int .u8 0, .int .u8 0, .int .u8 0, .int .u8 0, .int .u8 0, .int .u8 0, .int .u8 0, .int .u8 0, .int .u8 0, .int .u8 0, .int .u8 0, .int .u8 0, .int .u8 0, .int .u8 0, .int .u8 0, .int .u8 0, .int .u8 0, .int .u8 0, .int .u8 0, .int .u8 0, .int .u8 0, .int .u8 0] := o6
  replace hb17 := hb17.keep k29 (fun hm => sb_b3_o1 _ hm rfl)
  replace hB := hB.new k29 (fun x hx => .inl (go_v1 x hx))
  clear z_k29 z59
  refine ow_nil (tw_keep [(5, _), (6, _), (74, _), (75, _)] ⟨rfl, rfl, rfl, rfl, trivial⟩ ?_)
  refine tw_b (tw_region (ow_g (g_fold (j := 5) (g_addw rfl rfl) (by decide)) rfl ?_))
  refine ow_g (g_mv rfl) rfl (ow_nil (tw_lp (tw_seq (tw_region (ow_g (g_lt rfl rfl) rfl ?_)))))
  refine ow_nil (tw_seq (tw_ifT rfl (by decide) ?_))
  refine tw_skip (tw_seq (tw_block (tw_seq (tw_region (ow_g (g_mv rfl) rfl (ow_g (g_as rfl) rfl ?_))))))
  refine ow_nil (tw_region (ow_g (g_mv rfl) rfl (ow_g (g_mv rfl) rfl (ow_g (g_mv rfl) rfl (ow_g (g_fold (j := 0) (g_quo rfl rfl (by decide)) (by decide)) rfl ?_)))))
  refine ow_g (g_ixa Try.underlying104 ty24 rfl rfl (by decide)) rfl ?_
  refine ow_g (g_ldb sc24 rfl hb17 rfl) rfl ?_
  refine ow_g (g_mv rfl) rfl (ow_g (g_fold (j := 5) (g_rem rfl rfl (by decide)) (by decide)) rfl ?_)
  refine ow_g (g_fold (j := 40) (g_mulw rfl rfl) (by decide)) rfl ?_
  refine ow_gx (e' := z32 / 1099511627776) (lo := 0) (hi := 16777215) (g_shrp (m := 1099511627776) rfl rfl (by decide) rfl) (rfl) (In.wk (in_div r28 (by decide)) rfl) rfl (fun z60 h37 r48 => ?_)
  refine ow_gx (e' := z60 % 256) (lo := 0) (hi := 255) (g_cv (by rw [Try.underlying24]; rfl) Try.underlying5 rfl) (wrap_uns rfl _) (In.wk (in_mod _ (by decide)) rfl) rfl (fun z61 h38 r49 => ?_)
  refine ow_g (g_ix Try.underlying22 ty5 rfl (by first | assumption | exact Own.rd ‹_› | exact Rd.keep0 ‹_› hB | exact Own.rd (Own.keep0 ‹_› hB)) rfl (by omega)) rfl ?_
  refine ow_d0 (d_sto (u := .int .u8 z61) ty5 rfl rfl rfl o6 (blt_lt rfl)) ?_
  rintro _ w30 ⟨o7, k30, z62⟩
  have z_k30 := k30.size
  replace o7 : Own w30 _ 5 1 v1 32 [.int .u8 z46, .int .u8 z49, .int .u8 z52, .int .u8 z55, .int .u8 z58, .int .u8 z61, .int .u8 0, .int .u8 0, .int .u8 0, .int .u8 0, .int .u8 0, .int .u8 0, .int .u8 0, .int .u8 0, .int .u8 0, .int .u8 0, .int .u8 0, .int .u8 0, .int .u8 0, .int .u8 0, .int .u8 0, .int .u8 0, .int .u8 0, .int .u8 0, .int .u8 0, .int .u8 0, .int .u8 0, .int .u8 0, .int .u8 0, .int .u8 0, .int .u8 0, .int .u8 0] := o7
  replace hb17 := hb17.keep k30 (fun hm => sb_b3_o1 _ hm rfl)
  replace hB := hB.new k30 (fun x hx => .inl (go_v1 x hx))
  clear z_k30 z62
  refine ow_nil (tw_keep [(5, _), (6, _), (74, _), (75, _)] ⟨rfl, rfl, rfl, rfl, trivial⟩ ?_)
  refine tw_b (tw_region (ow_g (g_fold (j := 6) (g_addw rfl rfl) (by decide)) rfl ?_))
  refine ow_g (g_mv rfl) rfl (ow_nil (tw_lp (tw_seq (tw_region (ow_g (g_lt rfl rfl) rfl ?_)))))
  refine ow_nil (tw_seq (tw_ifT rfl (by decide) ?_))
  refine tw_skip (tw_seq (tw_block (tw_seq (tw_region (ow_g (g_mv rfl) rfl (ow_g (g_as rfl) rfl ?_))))))
  refine ow_nil (tw_region (ow_g (g_mv rfl) rfl (ow_g (g_mv rfl) rfl (ow_g (g_mv rfl) rfl (ow_g (g_fold (j := 0) (g_quo rfl rfl (by decide)) (by decide)) rfl ?_)))))
  refine ow_g (g_ixa Try.underlying104 ty24 rfl rfl (by decide)) rfl ?_
  refine ow_g (g_ldb sc24 rfl hb17 rfl) rfl ?_
  refine ow_g (g_mv rfl) rfl (ow_g (g_fold (j := 6) (g_rem rfl rfl (by decide)) (by decide)) rfl ?_)
  refine ow_g (g_fold (j := 48) (g_mulw rfl rfl) (by decide)) rfl ?_
  refine ow_gx (e' := z32 / 281474976710656) (lo := 0) (hi := 65535) (g_shrp (m := 281474976710656) rfl rfl (by decide) rfl) (rfl) (In.wk (in_div r28 (by decide)) rfl) rfl (fun z63 h39 r50 => ?_)
  refine ow_gx (e' := z63 % 256) (lo := 0) (hi := 255) (g_cv (by rw [Try.underlying24]; rfl) Try.underlying5 rfl) (wrap_uns rfl _) (In.wk (in_mod _ (by decide)) rfl) rfl (fun z64 h40 r51 => ?_)
  refine ow_g (g_ix Try.underlying22 ty5 rfl (by first | assumption | exact Own.rd ‹_› | exact Rd.keep0 ‹_› hB | exact Own.rd (Own.keep0 ‹_› hB)) rfl (by omega)) rfl ?_
  refine ow_d0 (d_sto (u := .int .u8 z64) ty5 rfl rfl rfl o7 (blt_lt rfl)) ?_
  rintro _ w31 ⟨o8, k31, z65⟩
  have z_k31 := k31.size
  replace o8 : Own w31 _ 5 1 v1 32 [.int .u8 z46, .int .u8 z49, .int .u8 z52, .int .u8 z55, .int .u8 z58, .int .u8 z61, .int .u8 z64, .int .u8 0, .int .u8 0, .int .u8 0, .int .u8 0, .int .u8 0, .int .u8 0, .int .u8 0, .int .u8 0, .int .u8 0, .int .u8 0, .int .u8 0, .int .u8 0, .int .u8 0, .int .u8 0, .int .u8 0, .int .u8 0, .int .u8 0, .int .u8 0, .int .u8 0, .int .u8 0, .int .u8 0, .int .u8 0, .int .u8 0, .int .u8 0, .int .u8 0] := o8
  replace hb17 := hb17.keep k31 (fun hm => sb_b3_o1 _ hm rfl)
  replace hB := hB.new k31 (fun x hx => .inl (go_v1 x hx))
  clear z_k31 z65
  refine ow_nil (tw_keep [(5, _), (6, _), (74, _), (75, _)] ⟨rfl, rfl, rfl, rfl, trivial⟩ ?_)
  refine tw_b (tw_region (ow_g (g_fold (j := 7) (g_addw rfl rfl) (by decide)) rfl ?_))
  refine ow_g (g_mv rfl) rfl (ow_nil (tw_lp (tw_seq (tw_region (ow_g (g_lt rfl rfl) rfl ?_)))))
  refine ow_nil (tw_seq (tw_ifT rfl (by decide) ?_))
  refine tw_skip (tw_seq (tw_block (tw_seq (tw_region (ow_g (g_mv rfl) rfl (ow_g (g_as rfl) rfl ?_))))))
  refine ow_nil (tw_region (ow_g (g_mv rfl) rfl (ow_g (g_mv rfl) rfl (ow_g (g_mv rfl) rfl (ow_g (g_fold (j := 0) (g_quo rfl rfl (by decide)) (by decide)) rfl ?_)))))
  refine ow_g (g_ixa Try.underlying104 ty24 rfl rfl (by decide)) rfl ?_
  refine ow_g (g_ldb sc24 rfl hb17 rfl) rfl ?_
  refine ow_g (g_mv rfl) rfl (ow_g (g_fold (j := 7) (g_rem rfl rfl (by decide)) (by decide)) rfl ?_)
  refine ow_g (g_fold (j := 56) (g_mulw rfl rfl) (by decide)) rfl ?_
  refine ow_gx (e' := z32 / 72057594037927936) (lo := 0) (hi := 255) (g_shrp (m := 72057594037927936) rfl rfl (by decide) rfl) (rfl) (In.wk (in_div r28 (by decide)) rfl) rfl (fun z66 h41 r52 => ?_)
  refine ow_gx (e' := z66) (lo := 0) (hi := 255) (g_cv (by rw [Try.underlying24]; rfl) Try.underlying5 rfl) (wrap_fit r52 rfl) (r52) rfl (fun z67 h42 r53 => ?_)
  refine ow_g (g_ix Try.underlying22 ty5 rfl (by first | assumption | exact Own.rd ‹_› | exact Rd.keep0 ‹_› hB | exact Own.rd (Own.keep0 ‹_› hB)) rfl (by omega)) rfl ?_
  refine ow_d0 (d_sto (u := .int .u8 z67) ty5 rfl rfl rfl o8 (blt_lt rfl)) ?_
  rintro _ w32 ⟨o9, k32, z68⟩
  have z_k32 := k32.size
  replace o9 : Own w32 _ 5 1 v1 32 [.int .u8 z46, .int .u8 z49, .int .u8 z52, .int .u8 z55, .int .u8 z58, .int .u8 z61, .int .u8 z64, .int .u8 z67, .int .u8 0, .int .u8 0, .int .u8 0, .int .u8 0, .int .u8 0, .int .u8 0, .int .u8 0, .int .u8 0, .int .u8 0, .int .u8 0, .int .u8 0, .int .u8 0, .int .u8 0, .int .u8 0, .int .u8 0, .int .u8 0, .int .u8 0, .int .u8 0, .int .u8 0, .int .u8 0, .int .u8 0, .int .u8 0, .int .u8 0, .int .u8 0] := o9
  replace hb17 := hb17.keep k32 (fun hm => sb_b3_o1 _ hm rfl)
  replace hB := hB.new k32 (fun x hx => .inl (go_v1 x hx))
  clear z_k32 z68
  refine ow_nil (tw_keep [(5, _), (6, _), (74, _), (75, _)] ⟨rfl, rfl, rfl, rfl, trivial⟩ ?_)
  refine tw_b (tw_region (ow_g (g_fold (j := 8) (g_addw rfl rfl) (by decide)) rfl ?_))
  refine ow_g (g_mv rfl) rfl (ow_nil (tw_lp (tw_seq (tw_region (ow_g (g_lt rfl rfl) rfl ?_)))))
  refine ow_nil (tw_seq (tw_ifT rfl (by decide) ?_))
  refine tw_skip (tw_seq (tw_block (tw_seq (tw_region (ow_g (g_mv rfl) rfl (ow_g (g_as rfl) rfl ?_))))))
  refine ow_nil (tw_region (ow_g (g_mv rfl) rfl (ow_g (g_mv rfl) rfl (ow_g (g_mv rfl) rfl (ow_g (g_fold (j := 1) (g_quo rfl rfl (by decide)) (by decide)) rfl ?_)))))
  refine ow_g (g_ixa Try.underlying104 ty24 rfl rfl (by decide)) rfl ?_
  refine ow_g (g_ldb sc24 rfl hb17 rfl) rfl ?_
  refine ow_g (g_mv rfl) rfl (ow_g (g_fold (j := 0) (g_rem rfl rfl (by decide)) (by decide)) rfl ?_)
  refine ow_g (g_fold (j := 0) (g_mulw rfl rfl) (by decide)) rfl ?_
  refine ow_gx (e' := z35 / 1) (lo := 0) (hi := 18446744073709551615) (g_shrp (m := 1) rfl rfl (by decide) rfl) (rfl) (In.wk (in_div r31 (by decide)) rfl) rfl (fun z69 h43 r54 => ?_)
  refine ow_gx (e' := z69 % 256) (lo := 0) (hi := 255) (g_cv (by rw [Try.underlying24]; rfl) Try.underlying5 rfl) (wrap_uns rfl _) (In.wk (in_mod _ (by decide)) rfl) rfl (fun z70 h44 r55 => ?_)
  refine ow_g (g_ix Try.underlying22 ty5 rfl (by first | assumption | exact Own.rd ‹_› | exact Rd.keep0 ‹_› hB | exact Own.rd (Own.keep0 ‹_› hB)) rfl (by omega)) rfl ?_
  refine ow_d0 (d_sto (u := .int .u8 z70) ty5 rfl rfl rfl o9 (blt_lt rfl)) ?_
  rintro _ w33 ⟨o10, k33, z71⟩
  have z_k33 := k33.size
  replace o10 : Own w33 _ 5 1 v1 32 [.int .u8 z46, .int .u8 z49, .int .u8 z52, .int .u8 z55, .int .u8 z58, .int .u8 z61, .int .u8 z64, .int .u8 z67, .int .u8 z70, .int .u8 0, .int .u8 0, .int .u8 0, .int .u8 0, .int .u8 0, .int .u8 0, .int .u8 0, .int .u8 0, .int .u8 0, .int .u8 0, .int .u8 0, .int .u8 0, .int .u8 0, .int .u8 0, .int .u8 0, .int .u8 0, .int .u8 0, .int .u8 0, .int .u8 0, .int .u8 0, .int .u8 0, .int .u8 0, .int .u8 0] := o10
  replace hb17 := hb17.keep k33 (fun hm => sb_b3_o1 _ hm rfl)
  replace hB := hB.new k33 (fun x hx => .inl (go_v1 x hx))
  clear z_k33 z71
  refine ow_nil (tw_keep [(5, _), (6, _), (74, _), (75, _)] ⟨rfl, rfl, rfl, rfl, trivial⟩ ?_)
  refine tw_b (tw_region (ow_g (g_fold (j := 9) (g_addw rfl rfl) (by decide)) rfl ?_))
  refine ow_g (g_mv rfl) rfl (ow_nil (tw_lp (tw_seq (tw_region (ow_g (g_lt rfl rfl) rfl ?_)))))
  refine ow_nil (tw_seq (tw_ifT rfl (by decide) ?_))
  refine tw_skip (tw_seq (tw_block (tw_seq (tw_region (ow_g (g_mv rfl) rfl (ow_g (g_as rfl) rfl ?_))))))
  refine ow_nil (tw_region (ow_g (g_mv rfl) rfl (ow_g (g_mv rfl) rfl (ow_g (g_mv rfl) rfl (ow_g (g_fold (j := 1) (g_quo rfl rfl (by decide)) (by decide)) rfl ?_)))))
  refine ow_g (g_ixa Try.underlying104 ty24 rfl rfl (by decide)) rfl ?_
  refine ow_g (g_ldb sc24 rfl hb17 rfl) rfl ?_
  refine ow_g (g_mv rfl) rfl (ow_g (g_fold (j := 1) (g_rem rfl rfl (by decide)) (by decide)) rfl ?_)
  refine ow_g (g_fold (j := 8) (g_mulw rfl rfl) (by decide)) rfl ?_
  refine ow_gx (e' := z35 / 256) (lo := 0) (hi := 72057594037927935) (g_shrp (m := 256) rfl rfl (by decide) rfl) (rfl) (In.wk (in_div r31 (by decide)) rfl) rfl (fun z72 h45 r56 => ?_)
  refine ow_gx (e' := z72 % 256) (lo := 0) (hi := 255) (g_cv (by rw [Try.underlying24]; rfl) Try.underlying5 rfl) (wrap_uns rfl _) (In.wk (in_mod _ (by decide)) rfl) rfl (fun z73 h46 r57 => ?_)
  refine ow_g (g_ix Try.underlying22 ty5 rfl (by first | assumption | exact Own.rd ‹_› | exact Rd.keep0 ‹_› hB | exact Own.rd (Own.keep0 ‹_› hB)) rfl (by omega)) rfl ?_
  refine ow_d0 (d_sto (u := .int .u8 z73) ty5 rfl rfl rfl o10 (blt_lt rfl)) ?_
  rintro _ w34 ⟨o11, k34, z74⟩
  have z_k34 := k34.size
  replace o11 : Own w34 _ 5 1 v1 32 [.int .u8 z46, .int .u8 z49, .int .u8 z52, .int .u8 z55, .int .u8 z58, .int .u8 z61, .int .u8 z64, .int .u8 z67, .int .u8 z70, .int .u8 z73, .int .u8 0, .int .u8 0, .int .u8 0, .int .u8 0, .int .u8 0, .int .u8 0, .int .u8 0, .int .u8 0, .int .u8 0, .int .u8 0, .int .u8 0, .int .u8 0, .int .u8 0, .int .u8 0, .int .u8 0, .int .u8 0, .int .u8 0, .int .u8 0, .int .u8 0, .int .u8 0, .int .u8 0, .int .u8 0] := o11
  replace hb17 := hb17.keep k34 (fun hm => sb_b3_o1 _ hm rfl)
  replace hB := hB.new k34 (fun x hx => .inl (go_v1 x hx))
  clear z_k34 z74
  refine ow_nil (tw_keep [(5, _), (6, _), (74, _), (75, _)] ⟨rfl, rfl, rfl, rfl, trivial⟩ ?_)
  refine tw_b (tw_region (ow_g (g_fold (j := 10) (g_addw rfl rfl) (by decide)) rfl ?_))
  refine ow_g (g_mv rfl) rfl (ow_nil (tw_lp (tw_seq (tw_region (ow_g (g_lt rfl rfl) rfl ?_)))))
  refine ow_nil (tw_seq (tw_ifT rfl (by decide) ?_))
  refine tw_skip (tw_seq (tw_block (tw_seq (tw_region (ow_g (g_mv rfl) rfl (ow_g (g_as rfl) rfl ?_))))))
  refine ow_nil (tw_region (ow_g (g_mv rfl) rfl (ow_g (g_mv rfl) rfl (ow_g (g_mv rfl) rfl (ow_g (g_fold (j := 1) (g_quo rfl rfl (by decide)) (by decide)) rfl ?_)))))
  refine ow_g (g_ixa Try.underlying104 ty24 rfl rfl (by decide)) rfl ?_
  refine ow_g (g_ldb sc24 rfl hb17 rfl) rfl ?_
  refine ow_g (g_mv rfl) rfl (ow_g (g_fold (j := 2) (g_rem rfl rfl (by decide)) (by decide)) rfl ?_)
  refine ow_g (g_fold (j := 16) (g_mulw rfl rfl) (by decide)) rfl ?_
  refine ow_gx (e' := z35 / 65536) (lo := 0) (hi := 281474976710655) (g_shrp (m := 65536) rfl rfl (by decide) rfl) (rfl) (In.wk (in_div r31 (by decide)) rfl) rfl (fun z75 h47 r58 => ?_)
  refine ow_gx (e' := z75 % 256) (lo := 0) (hi := 255) (g_cv (by rw [Try.underlying24]; rfl) Try.underlying5 rfl) (wrap_uns rfl _) (In.wk (in_mod _ (by decide)) rfl) rfl (fun z76 h48 r59 => ?_)
  refine ow_g (g_ix Try.underlying22 ty5 rfl (by first | assumption | exact Own.rd ‹_› | exact Rd.keep0 ‹_› hB | exact Own.rd (Own.keep0 ‹_› hB)) rfl (by omega)) rfl ?_
  refine ow_d0 (d_sto (u := .int .u8 z76) ty5 rfl rfl rfl o11 (blt_lt rfl)) ?_
  rintro _ w35 ⟨o12, k35, z77⟩
  have z_k35 := k35.size
  replace o12 : Own w35 _ 5 1 v1 32 [.int .u8 z46, .int .u8 z49, .int .u8 z52, .int .u8 z55, .int .u8 z58, .int .u8 z61, .int .u8 z64, .int .u8 z67, .int .u8 z70, .int .u8 z73, .int .u8 z76, .int .u8 0, .int .u8 0, .int .u8 0, .int .u8 0, .int .u8 0, .int .u8 0, .int .u8 0, .int .u8 0, .int .u8 0, .int .u8 0, .int .u8 0, .int .u8 0, .int .u8 0, .int .u8 0, .int .u8 0, .int .u8 0, .int .u8 0, .int .u8 0, .int .u8 0, .int .u8 0, .int .u8 0] := o12
  replace hb17 := hb17.keep k35 (fun hm => sb_b3_o1 _ hm rfl)
  replace hB := hB.new k35 (fun x hx => .inl (go_v1 x hx))
  clear z_k35 z77
  refine ow_nil (tw_keep [(5, _), (6, _), (74, _), (75, _)] ⟨rfl, rfl, rfl, rfl, trivial⟩ ?_)
  refine tw_b (tw_region (ow_g (g_fold (j := 11) (g_addw rfl rfl) (by decide)) rfl ?_))
  refine ow_g (g_mv rfl) rfl (ow_nil (tw_lp (tw_seq (tw_region (ow_g (g_lt rfl rfl) rfl ?_)))))
  refine ow_nil (tw_seq (tw_ifT rfl (by decide) ?_))
  refine tw_skip (tw_seq (tw_block (tw_seq (tw_region (ow_g (g_mv rfl) rfl (ow_g (g_as rfl) rfl ?_))))))
  refine ow_nil (tw_region (ow_g (g_mv rfl) rfl (ow_g (g_mv rfl) rfl (ow_g (g_mv rfl) rfl (ow_g (g_fold (j := 1) (g_quo rfl rfl (by decide)) (by decide)) rfl ?_)))))
  refine ow_g (g_ixa Try.underlying104 ty24 rfl rfl (by decide)) rfl ?_
  refine ow_g (g_ldb sc24 rfl hb17 rfl) rfl ?_
  refine ow_g (g_mv rfl) rfl (ow_g (g_fold (j := 3) (g_rem rfl rfl (by decide)) (by decide)) rfl ?_)
  refine ow_g (g_fold (j := 24) (g_mulw rfl rfl) (by decide)) rfl ?_
  refine ow_gx (e' := z35 / 16777216) (lo := 0) (hi := 1099511627775) (g_shrp (m := 16777216) rfl rfl (by decide) rfl) (rfl) (In.wk (in_div r31 (by decide)) rfl) rfl (fun z78 h49 r60 => ?_)
  refine ow_gx (e' := z78 % 256) (lo := 0) (hi := 255) (g_cv (by rw [Try.underlying24]; rfl) Try.underlying5 rfl) (wrap_uns rfl _) (In.wk (in_mod _ (by decide)) rfl) rfl (fun z79 h50 r61 => ?_)
  refine ow_g (g_ix Try.underlying22 ty5 rfl (by first | assumption | exact Own.rd ‹_› | exact Rd.keep0 ‹_› hB | exact Own.rd (Own.keep0 ‹_› hB)) rfl (by omega)) rfl ?_
  refine ow_d0 (d_sto (u := .int .u8 z79) ty5 rfl rfl rfl o12 (blt_lt rfl)) ?_
  rintro _ w36 ⟨o13, k36, z80⟩
  have z_k36 := k36.size
  replace o13 : Own w36 _ 5 1 v1 32 [.int .u8 z46, .int .u8 z49, .int .u8 z52, .int .u8 z55, .int .u8 z58, .int .u8 z61, .int .u8 z64, .int .u8 z67, .int .u8 z70, .int .u8 z73, .int .u8 z76, .int .u8 z79, .int .u8 0, .int .u8 0, .int .u8 0, .int .u8 0, .int .u8 0, .int .u8 0, .int .u8 0, .int .u8 0, .int .u8 0, .int .u8 0, .int .u8 0, .int .u8 0, .int .u8 0, .int .u8 0, .int .u8 0, .int .u8 0, .int .u8 0, .int .u8 0, .int .u8 0, .int .u8 0] := o13
  replace hb17 := hb17.keep k36 (fun hm => sb_b3_o1 _ hm rfl)
  replace hB := hB.new k36 (fun x hx => .inl (go_v1 x hx))
  clear z_k36 z80
  refine ow_nil (tw_keep [(5, _), (6, _), (74, _), (75, _)] ⟨rfl, rfl, rfl, rfl, trivial⟩ ?_)
  refine tw_b (tw_region (ow_g (g_fold (j := 12) (g_addw rfl rfl) (by decide)) rfl ?_))
  refine ow_g (g_mv rfl) rfl (ow_nil (tw_lp (tw_seq (tw_region (ow_g (g_lt rfl rfl) rfl ?_)))))
  refine ow_nil (tw_seq (tw_ifT rfl (by decide) ?_))
  refine tw_skip (tw_seq (tw_block (tw_seq (tw_region (ow_g (g_mv rfl) rfl (ow_g (g_as rfl) rfl ?_))))))
  refine ow_nil (tw_region (ow_g (g_mv rfl) rfl (ow_g (g_mv rfl) rfl (ow_g (g_mv rfl) rfl (ow_g (g_fold (j := 1) (g_quo rfl rfl (by decide)) (by decide)) rfl ?_)))))
  refine ow_g (g_ixa Try.underlying104 ty24 rfl rfl (by decide)) rfl ?_
  refine ow_g (g_ldb sc24 rfl hb17 rfl) rfl ?_
  refine ow_g (g_mv rfl) rfl (ow_g (g_fold (j := 4) (g_rem rfl rfl (by decide)) (by decide)) rfl ?_)
  refine ow_g (g_fold (j := 32) (g_mulw rfl rfl) (by decide)) rfl ?_
  refine ow_gx (e' := z35 / 4294967296) (lo := 0) (hi := 4294967295) (g_shrp (m := 4294967296) rfl rfl (by decide) rfl) (rfl) (In.wk (in_div r31 (by decide)) rfl) rfl (fun z81 h51 r62 => ?_)
  refine ow_gx (e' := z81 % 256) (lo := 0) (hi := 255) (g_cv (by rw [Try.underlying24]; rfl) Try.underlying5 rfl) (wrap_uns rfl _) (In.wk (in_mod _ (by decide)) rfl) rfl (fun z82 h52 r63 => ?_)
  refine ow_g (g_ix Try.underlying22 ty5 rfl (by first | assumption | exact Own.rd ‹_› | exact Rd.keep0 ‹_› hB | exact Own.rd (Own.keep0 ‹_› hB)) rfl (by omega)) rfl ?_
  refine ow_d0 (d_sto (u := .int .u8 z82) ty5 rfl rfl rfl o13 (blt_lt rfl)) ?_
  rintro _ w37 ⟨o14, k37, z83⟩
  have z_k37 := k37.size
  replace o14 : Own w37 _ 5 1 v1 32 [.int .u8 z46, .int .u8 z49, .int .u8 z52, .int .u8 z55, .int .u8 z58, .int .u8 z61, .int .u8 z64, .int .u8 z67, .int .u8 z70, .int .u8 z73, .int .u8 z76, .int .u8 z79, .int .u8 z82, .int .u8 0, .int .u8 0, .int .u8 0, .int .u8 0, .int .u8 0, .int .u8 0, .int .u8 0, .int .u8 0, .int .u8 0, .int .u8 0, .int .u8 0, .int .u8 0, .int .u8 0, .int .u8 0, .int .u8 0, .int .u8 0, .int .u8 0, .int .u8 0, .int .u8 0] := o14
  replace hb17 := hb17.keep k37 (fun hm => sb_b3_o1 _ hm rfl)
  replace hB := hB.new k37 (fun x hx => .inl (go_v1 x hx))
  clear z_k37 z83
  refine ow_nil (tw_keep [(5, _), (6, _), (74, _), (75, _)] ⟨rfl, rfl, rfl, rfl, trivial⟩ ?_)
  refine tw_b (tw_region (ow_g (g_fold (j := 13) (g_addw rfl rfl) (by decide)) rfl ?_))
  refine ow_g (g_mv rfl) rfl (ow_nil (tw_lp (tw_seq (tw_region (ow_g (g_lt rfl rfl) rfl ?_)))))
  refine ow_nil (tw_seq (tw_ifT rfl (by decide) ?_))
  refine tw_skip (tw_seq (tw_block (tw_seq (tw_region (ow_g (g_mv rfl) rfl (ow_g (g_as rfl) rfl ?_))))))
  refine ow_nil (tw_region (ow_g (g_mv rfl) rfl (ow_g (g_mv rfl) rfl (ow_g (g_mv rfl) rfl (ow_g (g_fold (j := 1) (g_quo rfl rfl (by decide)) (by decide)) rfl ?_)))))
  refine ow_g (g_ixa Try.underlying104 ty24 rfl rfl (by decide)) rfl ?_
  refine ow_g (g_ldb sc24 rfl hb17 rfl) rfl ?_
  refine ow_g (g_mv rfl) rfl (ow_g (g_fold (j := 5) (g_rem rfl rfl (by decide)) (by decide)) rfl ?_)
  refine ow_g (g_fold (j := 40) (g_mulw rfl rfl) (by decide)) rfl ?_
  refine ow_gx (e' := z35 / 1099511627776) (lo := 0) (hi := 16777215) (g_shrp (m := 1099511627776) rfl rfl (by decide) rfl) (rfl) (In.wk (in_div r31 (by decide)) rfl) rfl (fun z84 h53 r64 => ?_)
  refine ow_gx (e' := z84 % 256) (lo := 0) (hi := 255) (g_cv (by rw [Try.underlying24]; rfl) Try.underlying5 rfl) (wrap_uns rfl _) (In.wk (in_mod _ (by decide)) rfl) rfl (fun z85 h54 r65 => ?_)
  refine ow_g (g_ix Try.underlying22 ty5 rfl (by first | assumption | exact Own.rd ‹_› | exact Rd.keep0 ‹_› hB | exact Own.rd (Own.keep0 ‹_› hB)) rfl (by omega)) rfl ?_
  refine ow_d0 (d_sto (u := .int .u8 z85) ty5 rfl rfl rfl o14 (blt_lt rfl)) ?_
  rintro _ w38 ⟨o15, k38, z86⟩
  have z_k38 := k38.size
  replace o15 : Own w38 _ 5 1 v1 32 [.int .u8 z46, .int .u8 z49, .int .u8 z52, .int .u8 z55, .int .u8 z58, .int .u8 z61, .int .u8 z64, .int .u8 z67, .int .u8 z70, .int .u8 z73, .int .u8 z76, .int .u8 z79, .int .u8 z82, .int .u8 z85, .int .u8 0, .int .u8 0, .int .u8 0, .int .u8 0, .int .u8 0, .int .u8 0, .int .u8 0, .int .u8 0, .int .u8 0, .int .u8 0, .int .u8 0, .int .u8 0, .int .u8 0, .int .u8 0, .int .u8 0, .int .u8 0, .int .u8 0, .int .u8 0] := o15
  replace hb17 := hb17.keep k38 (fun hm => sb_b3_o1 _ hm rfl)
  replace hB := hB.new k38 (fun x hx => .inl (go_v1 x hx))
  clear z_k38 z86
  refine ow_nil (tw_keep [(5, _), (6, _), (74, _), (75, _)] ⟨rfl, rfl, rfl, rfl, trivial⟩ ?_)
  refine tw_b (tw_region (ow_g (g_fold (j := 14) (g_addw rfl rfl) (by decide)) rfl ?_))
  refine ow_g (g_mv rfl) rfl (ow_nil (tw_lp (tw_seq (tw_region (ow_g (g_lt rfl rfl) rfl ?_)))))
  refine ow_nil (tw_seq (tw_ifT rfl (by decide) ?_))
  refine tw_skip (tw_seq (tw_block (tw_seq (tw_region (ow_g (g_mv rfl) rfl (ow_g (g_as rfl) rfl ?_))))))
  refine ow_nil (tw_region (ow_g (g_mv rfl) rfl (ow_g (g_mv rfl) rfl (ow_g (g_mv rfl) rfl (ow_g (g_fold (j := 1) (g_quo rfl rfl (by decide)) (by decide)) rfl ?_)))))
  refine ow_g (g_ixa Try.underlying104 ty24 rfl rfl (by decide)) rfl ?_
  refine ow_g (g_ldb sc24 rfl hb17 rfl) rfl ?_
  refine ow_g (g_mv rfl) rfl (ow_g (g_fold (j := 6) (g_rem rfl rfl (by decide)) (by decide)) rfl ?_)
  refine ow_g (g_fold (j := 48) (g_mulw rfl rfl) (by decide)) rfl ?_
  refine ow_gx (e' := z35 / 281474976710656) (lo := 0) (hi := 65535) (g_shrp (m := 281474976710656) rfl rfl (by decide) rfl) (rfl) (In.wk (in_div r31 (by decide)) rfl) rfl (fun z87 h55 r66 => ?_)
  refine ow_gx (e' := z87 % 256) (lo := 0) (hi := 255) (g_cv (by rw [Try.underlying24]; rfl) Try.underlying5 rfl) (wrap_uns rfl _) (In.wk (in_mod _ (by decide)) rfl) rfl (fun z88 h56 r67 => ?_)
  refine ow_g (g_ix Try.underlying22 ty5 rfl (by first | assumption | exact Own.rd ‹_› | exact Rd.keep0 ‹_› hB | exact Own.rd (Own.keep0 ‹_› hB)) rfl (by omega)) rfl ?_
  refine ow_d0 (d_sto (u := .int .u8 z88) ty5 rfl rfl rfl o15 (blt_lt rfl)) ?_
  rintro _ w39 ⟨o16, k39, z89⟩
  have z_k39 := k39.size
  replace o16 : Own w39 _ 5 1 v1 32 [.int .u8 z46, .int .u8 z49, .int .u8 z52, .int .u8 z55, .int .u8 z58, .int .u8 z61, .int .u8 z64, .int .u8 z67, .int .u8 z70, .int .u8 z73, .int .u8 z76, .int .u8 z79, .int .u8 z82, .int .u8 z85, .int .u8 z88, .int .u8 0, .int .u8 0, .int .u8 0, .int .u8 0, .int .u8 0, .int .u8 0, .int .u8 0, .int .u8 0, .int .u8 0, .int .u8 0, .int .u8 0, .int .u8 0, .int .u8 0, .int .u8 0, .int .u8 0, .int .u8 0, .int .u8 0] := o16
  replace hb17 := hb17.keep k39 (fun hm => sb_b3_o1 _ hm rfl)
  replace hB := hB.new k39 (fun x hx => .inl (go_v1 x hx))
  clear z_k39 z89
  refine ow_nil (tw_keep [(5, _), (6, _), (74, _), (75, _)] ⟨rfl, rfl, rfl, rfl, trivial⟩ ?_)
  refine tw_b (tw_region (ow_g (g_fold (j := 15) (g_addw rfl rfl) (by decide)) rfl ?_))
  refine ow_g (g_mv rfl) rfl (ow_nil (tw_lp (tw_seq (tw_region (ow_g (g_lt rfl rfl) rfl ?_)))))
  refine ow_nil (tw_seq (tw_ifT rfl (by decide) ?_))
  refine tw_skip (tw_seq (tw_block (tw_seq (tw_region (ow_g (g_mv rfl) rfl (ow_g (g_as rfl) rfl ?_))))))
  refine ow_nil (tw_region (ow_g (g_mv rfl) rfl (ow_g (g_mv rfl) rfl (ow_g (g_mv rfl) rfl (ow_g (g_fold (j := 1) (g_quo rfl rfl (by decide)) (by decide)) rfl ?_)))))
  refine ow_g (g_ixa Try.underlying104 ty24 rfl rfl (by decide)) rfl ?_
  refine ow_g (g_ldb sc24 rfl hb17 rfl) rfl ?_
  refine ow_g (g_mv rfl) rfl (ow_g (g_fold (j := 7) (g_rem rfl rfl (by decide)) (by decide)) rfl ?_)
  refine ow_g (g_fold (j := 56) (g_mulw rfl rfl) (by decide)) rfl ?_
  refine ow_gx (e' := z35 / 72057594037927936) (lo := 0) (hi := 255) (g_shrp (m := 72057594037927936) rfl rfl (by decide) rfl) (rfl) (In.wk (in_div r31 (by decide)) rfl) rfl (fun z90 h57 r68 => ?_)
  refine ow_gx (e' := z90) (lo := 0) (hi := 255) (g_cv (by rw [Try.underlying24]; rfl) Try.underlying5 rfl) (wrap_fit r68 rfl) (r68) rfl (fun z91 h58 r69 => ?_)
  refine ow_g (g_ix Try.underlying22 ty5 rfl (by first | assumption | exact Own.rd ‹_› | exact Rd.keep0 ‹_› hB | exact Own.rd (Own.keep0 ‹_› hB)) rfl (by omega)) rfl ?_
  refine ow_d0 (d_sto (u := .int .u8 z91) ty5 rfl rfl rfl o16 (blt_lt rfl)) ?_
  rintro _ w40 ⟨o17, k40, z92⟩
  have z_k40 := k40.size
  replace o17 : Own w40 _ 5 1 v1 32 [.int .u8 z46, .int .u8 z49, .int .u8 z52, .int .u8 z55, .int .u8 z58, .int .u8 z61, .int .u8 z64, .int .u8 z67, .int .u8 z70, .int .u8 z73, .int .u8 z76, .int .u8 z79, .int .u8 z82, .int .u8 z85, .int .u8 z88, .int .u8 z91, .int .u8 0, .int .u8 0, .int .u8 0, .int .u8 0, .int .u8 0, .int .u8 0, .int .u8 0, .int .u8 0, .int .u8 0, .int .u8 0, .int .u8 0, .int .u8 0, .int .u8 0, .int .u8 0, .int .u8 0, .int .u8 0] := o17
  replace hb17 := hb17.keep k40 (fun hm => sb_b3_o1 _ hm rfl)
  replace hB := hB.new k40 (fun x hx => .inl (go_v1 x hx))
  clear z_k40 z92
  refine ow_nil (tw_keep [(5, _), (6, _), (74, _), (75, _)] ⟨rfl, rfl, rfl, rfl, trivial⟩ ?_)
  refine tw_b (tw_region (ow_g (g_fold (j := 16) (g_addw rfl rfl) (by decide)) rfl ?_))
  refine ow_g (g_mv rfl) rfl (ow_nil (tw_lp (tw_seq (tw_region (ow_g (g_lt rfl rfl) rfl ?_)))))
  refine ow_nil (tw_seq (tw_ifT rfl (by decide) ?_))
  refine tw_skip (tw_seq (tw_block (tw_seq (tw_region (ow_g (g_mv rfl) rfl (ow_g (g_as rfl) rfl ?_))))))
  refine ow_nil (tw_region (ow_g (g_mv rfl) rfl (ow_g (g_mv rfl) rfl (ow_g (g_mv rfl) rfl (ow_g (g_fold (j := 2) (g_quo rfl rfl (by decide)) (by decide)) rfl ?_)))))
  refine ow_g (g_ixa Try.underlying104 ty24 rfl rfl (by decide)) rfl ?_
  refine ow_g (g_ldb sc24 rfl hb17 rfl) rfl ?_
  refine ow_g (g_mv rfl) rfl (ow_g (g_fold (j := 0) (g_rem rfl rfl (by decide)) (by decide)) rfl ?_)
  refine ow_g (g_fold (j := 0) (g_mulw rfl rfl) (by decide)) rfl ?_
  refine ow_gx (e' := z38 / 1) (lo := 0) (hi := 18446744073709551615) (g_shrp (m := 1) rfl rfl (by decide) rfl) (rfl) (In.wk (in_div r34 (by decide)) rfl) rfl (fun z93 h59 r70 => ?_)
  refine ow_gx (e' := z93 % 256) (lo := 0) (hi := 255) (g_cv (by rw [Try.underlying24]; rfl) Try.underlying5 rfl) (wrap_uns rfl _) (In.wk (in_mod _ (by decide)) rfl) rfl (fun z94 h60 r71 => ?_)
  refine ow_g (g_ix Try.underlying22 ty5 rfl (by first | assumption | exact Own.rd ‹_› | exact Rd.keep0 ‹_› hB | exact Own.rd (Own.keep0 ‹_› hB)) rfl (by omega)) rfl ?_
  refine ow_d0 (d_sto (u := .int .u8 z94) ty5 rfl rfl rfl o17 (blt_lt rfl)) ?_
  rintro _ w41 ⟨o18, k41, z95⟩
  have z_k41 := k41.size
  replace o18 : Own w41 _ 5 1 v1 32 [.int .u8 z46, .int .u8 z49, .int .u8 z52, .int .u8 z55, .int .u8 z58, .int .u8 z61, .int .u8 z64, .int .u8 z67, .int .u8 z70, .int .u8 z73, .int .u8 z76, .int .u8 z79, .int .u8 z82, .int .u8 z85, .int .u8 z88, .int .u8 z91, .int .u8 z94, .int .u8 0, .int .u8 0, .int .u8 0, .int .u8 0, .int .u8 0, .int .u8 0, .int .u8 0, .int .u8 0, .int .u8 0, .int .u8 0, .int .u8 0, .int .u8 0, .int .u8 0, .int .u8 0, .int .u8 0] := o18
  replace hb17 := hb17.keep k41 (fun hm => sb_b3_o1 _ hm rfl)
  replace hB := hB.new k41 (fun x hx => .inl (go_v1 x hx))
  clear z_k41 z95
  refine ow_nil (tw_keep [(5, _), (6, _), (74, _), (75, _)] ⟨rfl, rfl, rfl, rfl, trivial⟩ ?_)
  refine tw_b (tw_region (ow_g (g_fold (j := 17) (g_addw rfl rfl) (by decide)) rfl ?_))
  refine ow_g (g_mv rfl) rfl (ow_nil (tw_lp (tw_seq (tw_region (ow_g (g_lt rfl rfl) rfl ?_)))))
  refine ow_nil (tw_seq (tw_ifT rfl (by decide) ?_))
  refine tw_skip (tw_seq (tw_block (tw_seq (tw_region (ow_g (g_mv rfl) rfl (ow_g (g_as rfl) rfl ?_))))))
  refine ow_nil (tw_region (ow_g (g_mv rfl) rfl (ow_g (g_mv rfl) rfl (ow_g (g_mv rfl) rfl (ow_g (g_fold (j := 2) (g_quo rfl rfl (by decide)) (by decide)) rfl ?_)))))
  refine ow_g (g_ixa Try.underlying104 ty24 rfl rfl (by decide)) rfl ?_
  refine ow_g (g_ldb sc24 rfl hb17 rfl) rfl ?_
  refine ow_g (g_mv rfl) rfl (ow_g (g_fold (j := 1) (g_rem rfl rfl (by decide)) (by decide)) rfl ?_)
  refine ow_g (g_fold (j := 8) (g_mulw rfl rfl) (by decide)) rfl ?_
  refine ow_gx (e' := z38 / 256) (lo := 0) (hi := 72057594037927935) (g_shrp (m := 256) rfl rfl (by decide) rfl) (rfl) (In.wk (in_div r34 (by decide)) rfl) rfl (fun z96 h61 r72 => ?_)
  refine ow_gx (e' := z96 % 256) (lo := 0) (hi := 255) (g_cv (by rw [Try.underlying24]; rfl) Try.underlying5 rfl) (wrap_uns rfl _) (In.wk (in_mod _ (by decide)) rfl) rfl (fun z97 h62 r73 => ?_)
  refine ow_g (g_ix Try.underlying22 ty5 rfl (by first | assumption | exact Own.rd ‹_› | exact Rd.keep0 ‹_› hB | exact Own.rd (Own.keep0 ‹_› hB)) rfl (by omega)) rfl ?_
  refine ow_d0 (d_sto (u := .int .u8 z97) ty5 rfl rfl rfl o18 (blt_lt rfl)) ?_
  rintro _ w42 ⟨o19, k42, z98⟩
  have z_k42 := k42.size
  replace o19 : Own w42 _ 5 1 v1 32 [.int .u8 z46, .int .u8 z49, .int .u8 z52, .int .u8 z55, .int .u8 z58, .int .u8 z61, .int .u8 z64, .int .u8 z67, .int .u8 z70, .int .u8 z73, .int .u8 z76, .int .u8 z79, .int .u8 z82, .int .u8 z85, .int .u8 z88, .int .u8 z91, .int .u8 z94, .int .u8 z97, .int .u8 0, .int .u8 0, .int .u8 0, .int .u8 0, .int .u8 0, .int .u8 0, .int .u8 0, .int .u8 0, .int .u8 0, .int .u8 0, .int .u8 0, .int .u8 0, .int .u8 0, .int .u8 0] := o19
  replace hb17 := hb17.keep k42 (fun hm => sb_b3_o1 _ hm rfl)
  replace hB := hB.new k42 (fun x hx => .inl (go_v1 x hx))
  clear z_k42 z98
  refine ow_nil (tw_keep [(5, _), (6, _), (74, _), (75, _)] ⟨rfl, rfl, rfl, rfl, trivial⟩ ?_)
  refine tw_b (tw_region (ow_g (g_fold (j := 18) (g_addw rfl rfl) (by decide)) rfl ?_))
  refine ow_g (g_mv rfl) rfl (ow_nil (tw_lp (tw_seq (tw_region (ow_g (g_lt rfl rfl) rfl ?_)))))
  refine ow_nil (tw_seq (tw_ifT rfl (by decide) ?_))
  refine tw_skip (tw_seq (tw_block (tw_seq (tw_region (ow_g (g_mv rfl) rfl (ow_g (g_as rfl) rfl ?_))))))
  refine ow_nil (tw_region (ow_g (g_mv rfl) rfl (ow_g (g_mv rfl) rfl (ow_g (g_mv rfl) rfl (ow_g (g_fold (j := 2) (g_quo rfl rfl (by decide)) (by decide)) rfl ?_)))))
  refine ow_g (g_ixa Try.underlying104 ty24 rfl rfl (by decide)) rfl ?_
  refine ow_g (g_ldb sc24 rfl hb17 rfl) rfl ?_
  refine ow_g (g_mv rfl) rfl (ow_g (g_fold (j := 2) (g_rem rfl rfl (by decide)) (by decide)) rfl ?_)
  refine ow_g (g_fold (j := 16) (g_mulw rfl rfl) (by decide)) rfl ?_
  refine ow_gx (e' := z38 / 65536) (lo := 0) (hi := 281474976710655) (g_shrp (m := 65536) rfl rfl (by decide) rfl) (rfl) (In.wk (in_div r34 (by decide)) rfl) rfl (fun z99 h63 r74 => ?_)
  refine ow_gx (e' := z99 % 256) (lo := 0) (hi := 255) (g_cv (by rw [Try.underlying24]; rfl) Try.underlying5 rfl) (wrap_uns rfl _) (In.wk (in_mod _ (by decide)) rfl) rfl (fun z100 h64 r75 => ?_)
  refine ow_g (g_ix Try.underlying22 ty5 rfl (by first | assumption | exact Own.rd ‹_› | exact Rd.keep0 ‹_› hB | exact Own.rd (Own.keep0 ‹_› hB)) rfl (by omega)) rfl ?_
  refine ow_d0 (d_sto (u := .int .u8 z100) ty5 rfl rfl rfl o19 (blt_lt rfl)) ?_
  rintro _ w43 ⟨o20, k43, z101⟩
  have z_k43 := k43.size
  replace o20 : Own w43 _ 5 1 v1 32 [.int .u8 z46, .int .u8 z49, .int .u8 z52, .int .u8 z55, .int .u8 z58, .int .u8 z61, .int .u8 z64, .int .u8 z67, .int .u8 z70, .int .u8 z73, .int .u8 z76, .int .u8 z79, .int .u8 z82, .int .u8 z85, .int .u8 z88, .int .u8 z91, .int .u8 z94, .int .u8 z97, .int .u8 z100, .int .u8 0, .int .u8 0, .int .u8 0, .int .u8 0, .int .u8 0, .int .u8 0, .int .u8 0, .int .u8 0, .int .u8 0, .int .u8 0, .int .u8 0, .int .u8 0, .int .u8 0] := o20
  replace hb17 := hb17.keep k43 (fun hm => sb_b3_o1 _ hm rfl)
  replace hB := hB.new k43 (fun x hx => .inl (go_v1 x hx))
  clear z_k43 z101
  refine ow_nil (tw_keep [(5, _), (6, _), (74, _), (75, _)] ⟨rfl, rfl, rfl, rfl, trivial⟩ ?_)
  refine tw_b (tw_region (ow_g (g_fold (j := 19) (g_addw rfl rfl) (by decide)) rfl ?_))
  refine ow_g (g_mv rfl) rfl (ow_nil (tw_lp (tw_seq (tw_region (ow_g (g_lt rfl rfl) rfl ?_)))))
  refine ow_nil (tw_seq (tw_ifT rfl (by decide) ?_))
  refine tw_skip (tw_seq (tw_block (tw_seq (tw_region (ow_g (g_mv rfl) rfl (ow_g (g_as rfl) rfl ?_))))))
  refine ow_nil (tw_region (ow_g (g_mv rfl) rfl (ow_g (g_mv rfl) rfl (ow_g (g_mv rfl) rfl (ow_g (g_fold (j := 2) (g_quo rfl rfl (by decide)) (by decide)) rfl ?_)))))
  refine ow_g (g_ixa Try.underlying104 ty24 rfl rfl (by decide)) rfl ?_
  refine ow_g (g_ldb sc24 rfl hb17 rfl) rfl ?_
  refine ow_g (g_mv rfl) rfl (ow_g (g_fold (j := 3) (g_rem rfl rfl (by decide)) (by decide)) rfl ?_)
  refine ow_g (g_fold (j := 24) (g_mulw rfl rfl) (by decide)) rfl ?_
  refine ow_gx (e' := z38 / 16777216) (lo := 0) (hi := 1099511627775) (g_shrp (m := 16777216) rfl rfl (by decide) rfl) (rfl) (In.wk (in_div r34 (by decide)) rfl) rfl (fun z102 h65 r76 => ?_)
  refine ow_gx (e' := z102 % 256) (lo := 0) (hi := 255) (g_cv (by rw [Try.underlying24]; rfl) Try.underlying5 rfl) (wrap_uns rfl _) (In.wk (in_mod _ (by decide)) rfl) rfl (fun z103 h66 r77 => ?_)
  refine ow_g (g_ix Try.underlying22 ty5 rfl (by first | assumption | exact Own.rd ‹_› | exact Rd.keep0 ‹_› hB | exact Own.rd (Own.keep0 ‹_› hB)) rfl (by omega)) rfl ?_
  refine ow_d0 (d_sto (u := .int .u8 z103) ty5 rfl rfl rfl o20 (blt_lt rfl)) ?_
  rintro _ w44 ⟨o21, k44, z104⟩
  have z_k44 := k44.size
  replace o21 : Own w44 _ 5 1 v1 32 [.int .u8 z46, .int .u8 z49, .int .u8 z52, .int .u8 z55, .int .u8 z58, .int .u8 z61, .int .u8 z64, .int .u8 z67, .int .u8 z70, .int .u8 z73, .int .u8 z76, .int .u8 z79, .int .u8 z82, .int .u8 z85, .int .u8 z88, .int .u8 z91, .int .u8 z94, .int .u8 z97, .int .u8 z100, .int .u8 z103, .int .u8 0, .int .u8 0, .int .u8 0, .int .u8 0, .int .u8 0, .int .u8 0, .int .u8 0, .int .u8 0, .int .u8 0, .int .u8 0, .int .u8 0, .int .u8 0] := o21
  replace hb17 := hb17.keep k44 (fun hm => sb_b3_o1 _ hm rfl)
  replace hB := hB.new k44 (fun x hx => .inl (go_v1 x hx))
  clear z_k44 z104
  refine ow_nil (tw_keep [(5, _), (6, _), (74, _), (75, _)] ⟨rfl, rfl, rfl, rfl, trivial⟩ ?_)
  refine tw_b (tw_region (ow_g (g_fold (j := 20) (g_addw rfl rfl) (by decide)) rfl ?_))
  refine ow_g (g_mv rfl) rfl (ow_nil (tw_lp (tw_seq (tw_region (ow_g (g_lt rfl rfl) rfl ?_)))))
  refine ow_nil (tw_seq (tw_ifT rfl (by decide) ?_))
  refine tw_skip (tw_seq (tw_block (tw_seq (tw_region (ow_g (g_mv rfl) rfl (ow_g (g_as rfl) rfl ?_))))))
  refine ow_nil (tw_region (ow_g (g_mv rfl) rfl (ow_g (g_mv rfl) rfl (ow_g (g_mv rfl) rfl (ow_g (g_fold (j := 2) (g_quo rfl rfl (by decide)) (by decide)) rfl ?_)))))
  refine ow_g (g_ixa Try.underlying104 ty24 rfl rfl (by decide)) rfl ?_
  refine ow_g (g_ldb sc24 rfl hb17 rfl) rfl ?_
  refine ow_g (g_mv rfl) rfl (ow_g (g_fold (j := 4) (g_rem rfl rfl (by decide)) (by decide)) rfl ?_)
  refine ow_g (g_fold (j := 32) (g_mulw rfl rfl) (by decide)) rfl ?_
  refine ow_gx (e' := z38 / 4294967296) (lo := 0) (hi := 4294967295) (g_shrp (m := 4294967296) rfl rfl (by decide) rfl) (rfl) (In.wk (in_div r34 (by decide)) rfl) rfl (fun z105 h67 r78 => ?_)
  refine ow_gx (e' := z105 % 256) (lo := 0) (hi := 255) (g_cv (by rw [Try.underlying24]; rfl) Try.underlying5 rfl) (wrap_uns rfl _) (In.wk (in_mod _ (by decide)) rfl) rfl (fun z106 h68 r79 => ?_)
  refine ow_g (g_ix Try.underlying22 ty5 rfl (by first | assumption | exact Own.rd ‹_› | exact Rd.keep0 ‹_› hB | exact Own.rd (Own.keep0 ‹_› hB)) rfl (by omega)) rfl ?_
  refine ow_d0 (d_sto (u := .int .u8 z106) ty5 rfl rfl rfl o21 (blt_lt rfl)) ?_
  rintro _ w45 ⟨o22, k45, z107⟩
  have z_k45 := k45.size
  replace o22 : Own w45 _ 5 1 v1 32 [.int .u8 z46, .int .u8 z49, .int .u8 z52, .int .u8 z55, .int .u8 z58, .int .u8 z61, .int .u8 z64, .int .u8 z67, .int .u8 z70, .int .u8 z73, .int .u8 z76, .int .u8 z79, .int .u8 z82, .int .u8 z85, .int .u8 z88, .int .u8 z91, .int .u8 z94, .int .u8 z97, .int .u8 z100, .int .u8 z103, .int .u8 z106, .int .u8 0, .int .u8 0, .int .u8 0, .int .u8 0, .int .u8 0, .int .u8 0, .int .u8 0, .int .u8 0, .int .u8 0, .int .u8 0, .int .u8 0] := o22
  replace hb17 := hb17.keep k45 (fun hm => sb_b3_o1 _ hm rfl)
  replace hB := hB.new k45 (fun x hx => .inl (go_v1 x hx))
  clear z_k45 z107
  refine ow_nil (tw_keep [(5, _), (6, _), (74, _), (75, _)] ⟨rfl, rfl, rfl, rfl, trivial⟩ ?_)
  refine tw_b (tw_region (ow_g (g_fold (j := 21) (g_addw rfl rfl) (by decide)) rfl ?_))
  refine ow_g (g_mv rfl) rfl (ow_nil (tw_lp (tw_seq (tw_region (ow_g (g_lt rfl rfl) rfl ?_)))))
  refine ow_nil (tw_seq (tw_ifT rfl (by decide) ?_))
  refine tw_skip (tw_seq (tw_block (tw_seq (tw_region (ow_g (g_mv rfl) rfl (ow_g (g_as rfl) rfl ?_))))))
  refine ow_nil (tw_region (ow_g (g_mv rfl) rfl (ow_g (g_mv rfl) rfl (ow_g (g_mv rfl) rfl (ow_g (g_fold (j := 2) (g_quo rfl rfl (by decide)) (by decide)) rfl ?_)))))
  refine ow_g (g_ixa Try.underlying104 ty24 rfl rfl (by decide)) rfl ?_
  refine ow_g (g_ldb sc24 rfl hb17 rfl) rfl ?_
  refine ow_g (g_mv rfl) rfl (ow_g (g_fold (j := 5) (g_rem rfl rfl (by decide)) (by decide)) rfl ?_)
  refine ow_g (g_fold (j := 40) (g_mulw rfl rfl) (by decide)) rfl ?_
  refine ow_gx (e' := z38 / 1099511627776) (lo := 0) (hi := 16777215) (g_shrp (m := 1099511627776) rfl rfl (by decide) rfl) (rfl) (In.wk (in_div r34 (by decide)) rfl) rfl (fun z108 h69 r80 => ?_)
  refine ow_gx (e' := z108 % 256) (lo := 0) (hi := 255) (g_cv (by rw [Try.underlying24]; rfl) Try.underlying5 rfl) (wrap_uns rfl _) (In.wk (in_mod _ (by decide)) rfl) rfl (fun z109 h70 r81 => ?_)
  refine ow_g (g_ix Try.underlying22 ty5 rfl (by first | assumption | exact Own.rd ‹_› | exact Rd.keep0 ‹_› hB | exact Own.rd (Own.keep0 ‹_› hB)) rfl (by omega)) rfl ?_
  refine ow_d0 (d_sto (u := .int .u8 z109) ty5 rfl rfl rfl o22 (blt_lt rfl)) ?_
  rintro _ w46 ⟨o23, k46, z110⟩
  have z_k46 := k46.size
  replace o23 : Own w46 _ 5 1 v1 32 [.int .u8 z46, .int .u8 z49, .int .u8 z52, .int .u8 z55, .int .u8 z58, .int .u8 z61, .int .u8 z64, .int .u8 z67, .int .u8 z70, .int .u8 z73, .int .u8 z76, .int .u8 z79, .int .u8 z82, .int .u8 z85, .int .u8 z88, .int .u8 z91, .int .u8 z94, .int .u8 z97, .int .u8 z100, .int .u8 z103, .int .u8 z106, .int .u8 z109, .int .u8 0, .int .u8 0, .int .u8 0, .int .u8 0, .int .u8 0, .int .u8 0, .int .u8 0, .int .u8 0, .int .u8 0, .int .u8 0] := o23
  replace hb17 := hb17.keep k46 (fun hm => sb_b3_o1 _ hm rfl)
  replace hB := hB.new k46 (fun x hx => .inl (go_v1 x hx))
  clear z_k46 z110
  refine ow_nil (tw_keep [(5, _), (6, _), (74, _), (75, _)] ⟨rfl, rfl, rfl, rfl, trivial⟩ ?_)
  refine tw_b (tw_region (ow_g (g_fold (j := 22) (g_addw rfl rfl) (by decide)) rfl ?_))
  refine ow_g (g_mv rfl) rfl (ow_nil (tw_lp (tw_seq (tw_region (ow_g (g_lt rfl rfl) rfl ?_)))))
  refine ow_nil (tw_seq (tw_ifT rfl (by decide) ?_))
  refine tw_skip (tw_seq (tw_block (tw_seq (tw_region (ow_g (g_mv rfl) rfl (ow_g (g_as rfl) rfl ?_))))))
  refine ow_nil (tw_region (ow_g (g_mv rfl) rfl (ow_g (g_mv rfl) rfl (ow_g (g_mv rfl) rfl (ow_g (g_fold (j := 2) (g_quo rfl rfl (by decide)) (by decide)) rfl ?_)))))
  refine ow_g (g_ixa Try.underlying104 ty24 rfl rfl (by decide)) rfl ?_
  refine ow_g (g_ldb sc24 rfl hb17 rfl) rfl ?_
  refine ow_g (g_mv rfl) rfl (ow_g (g_fold (j := 6) (g_rem rfl rfl (by decide)) (by decide)) rfl ?_)
  refine ow_g (g_fold (j := 48) (g_mulw rfl rfl) (by decide)) rfl ?_
  refine ow_gx (e' := z38 / 281474976710656) (lo := 0) (hi := 65535) (g_shrp (m := 281474976710656) rfl rfl (by decide) rfl) (rfl) (In.wk (in_div r34 (by decide)) rfl) rfl (fun z111 h71 r82 => ?_)
  refine ow_gx (e' := z111 % 256) (lo := 0) (hi := 255) (g_cv (by rw [Try.underlying24]; rfl) Try.underlying5 rfl) (wrap_uns rfl _) (In.wk (in_mod _ (by decide)) rfl) rfl (fun z112 h72 r83 => ?_)
  refine ow_g (g_ix Try.underlying22 ty5 rfl (by first | assumption | exact Own.rd ‹_› | exact Rd.keep0 ‹_› hB | exact Own.rd (Own.keep0 ‹_› hB)) rfl (by omega)) rfl ?_
  refine ow_d0 (d_sto (u := .int .u8 z112) ty5 rfl rfl rfl o23 (blt_lt rfl)) ?_
  rintro _ w47 ⟨o24, k47, z113⟩
  have z_k47 := k47.size
  replace o24 : Own w47 _ 5 1 v1 32 [.int .u8 z46, .int .u8 z49, .int .u8 z52, .int .u8 z55, .int .u8 z58, .int .u8 z61, .int .u8 z64, .int .u8 z67, .int .u8 z70, .int .u8 z73, .int .u8 z76, .int .u8 z79, .int .u8 z82, .int .u8 z85, .int .u8 z88, .int .u8 z91, .int .u8 z94, .int .u8 z97, .int .u8 z100, .int .u8 z103, .int .u8 z106, .int .u8 z109, .int .u8 z112, .int .u8 0, .int .u8 0, .int .u8 0, .int .u8 0, .int .u8 0, .int .u8 0, .int .u8 0, .int .u8 0, .int .u8 0] := o24
  replace hb17 := hb17.keep k47 (fun hm => sb_b3_o1 _ hm rfl)
  replace hB := hB.new k47 (fun x hx => .inl (go_v1 x hx))
  clear z_k47 z113
  refine ow_nil (tw_keep [(5, _), (6, _), (74, _), (75, _)] ⟨rfl, rfl, rfl, rfl, trivial⟩ ?_)
  refine tw_b (tw_region (ow_g (g_fold (j := 23) (g_addw rfl rfl) (by decide)) rfl ?_))
  refine ow_g (g_mv rfl) rfl (ow_nil (tw_lp (tw_seq (tw_region (ow_g (g_lt rfl rfl) rfl ?_)))))
  refine ow_nil (tw_seq (tw_ifT rfl (by decide) ?_))
  refine tw_skip (tw_seq (tw_block (tw_seq (tw_region (ow_g (g_mv rfl) rfl (ow_g (g_as rfl) rfl ?_))))))
  refine ow_nil (tw_region (ow_g (g_mv rfl) rfl (ow_g (g_mv rfl) rfl (ow_g (g_mv rfl) rfl (ow_g (g_fold (j := 2) (g_quo rfl rfl (by decide)) (by decide)) rfl ?_)))))
  refine ow_g (g_ixa Try.underlying104 ty24 rfl rfl (by decide)) rfl ?_
  refine ow_g (g_ldb sc24 rfl hb17 rfl) rfl ?_
  refine ow_g (g_mv rfl) rfl (ow_g (g_fold (j := 7) (g_rem rfl rfl (by decide)) (by decide)) rfl ?_)
  refine ow_g (g_fold (j := 56) (g_mulw rfl rfl) (by decide)) rfl ?_
  refine ow_gx (e' := z38 / 72057594037927936) (lo := 0) (hi := 255) (g_shrp (m := 72057594037927936) rfl rfl (by decide) rfl) (rfl) (In.wk (in_div r34 (by decide)) rfl) rfl (fun z114 h73 r84 => ?_)
  refine ow_gx (e' := z114) (lo := 0) (hi := 255) (g_cv (by rw [Try.underlying24]; rfl) Try.underlying5 rfl) (wrap_fit r84 rfl) (r84) rfl (fun z115 h74 r85 => ?_)
  refine ow_g (g_ix Try.underlying22 ty5 rfl (by first | assumption | exact Own.rd ‹_› | exact Rd.keep0 ‹_› hB | exact Own.rd (Own.keep0 ‹_› hB)) rfl (by omega)) rfl ?_
  refine ow_d0 (d_sto (u := .int .u8 z115) ty5 rfl rfl rfl o24 (blt_lt rfl)) ?_
  rintro _ w48 ⟨o25, k48, z116⟩
  have z_k48 := k48.size
  replace o25 : Own w48 _ 5 1 v1 32 [.int .u8 z46, .int .u8 z49, .int .u8 z52, .int .u8 z55, .int .u8 z58, .int .u8 z61, .int .u8 z64, .int .u8 z67, .int .u8 z70, .int .u8 z73, .int .u8 z76, .int .u8 z79, .int .u8 z82, .int .u8 z85, .int .u8 z88, .int .u8 z91, .int .u8 z94, .int .u8 z97, .int .u8 z100, .int .u8 z103, .int .u8 z106, .int .u8 z109, .int .u8 z112, .int .u8 z115, .int .u8 0, .int .u8 0, .int .u8 0, .int .u8 0, .int .u8 0, .int .u8 0, .int .u8 0, .int .u8 0] := o25
  replace hb17 := hb17.keep k48 (fun hm => sb_b3_o1 _ hm rfl)
  replace hB := hB.new k48 (fun x hx => .inl (go_v1 x hx))
  clear z_k48 z116
  refine ow_nil (tw_keep [(5, _), (6, _), (74, _), (75, _)] ⟨rfl, rfl, rfl, rfl, trivial⟩ ?_)
  refine tw_b (tw_region (ow_g (g_fold (j := 24) (g_addw rfl rfl) (by decide)) rfl ?_))
  refine ow_g (g_mv rfl) rfl (ow_nil (tw_lp (tw_seq (tw_region (ow_g (g_lt rfl rfl) rfl ?_)))))
  refine ow_nil (tw_seq (tw_ifT rfl (by decide) ?_))
  refine tw_skip (tw_seq (tw_block (tw_seq (tw_region (ow_g (g_mv rfl) rfl (ow_g (g_as rfl) rfl ?_))))))
  refine ow_nil (tw_region (ow_g (g_mv rfl) rfl (ow_g (g_mv rfl) rfl (ow_g (g_mv rfl) rfl (ow_g (g_fold (j := 3) (g_quo rfl rfl (by decide)) (by decide)) rfl ?_)))))
  refine ow_g (g_ixa Try.underlying104 ty24 rfl rfl (by decide)) rfl ?_
  refine ow_g (g_ldb sc24 rfl hb17 rfl) rfl ?_
  refine ow_g (g_mv rfl) rfl (ow_g (g_fold (j := 0) (g_rem rfl rfl (by decide)) (by decide)) rfl ?_)
  refine ow_g (g_fold (j := 0) (g_mulw rfl rfl) (by decide)) rfl ?_
  refine ow_gx (e' := z41 / 1) (lo := 0) (hi := 9223372036854775807) (g_shrp (m := 1) rfl rfl (by decide) rfl) (rfl) (In.wk (in_div r37 (by decide)) rfl) rfl (fun z117 h75 r86 => ?_)
  refine ow_gx (e' := z117 % 256) (lo := 0) (hi := 255) (g_cv (by rw [Try.underlying24]; rfl) Try.underlying5 rfl) (wrap_uns rfl _) (In.wk (in_mod _ (by decide)) rfl) rfl (fun z118 h76 r87 => ?_)
  refine ow_g (g_ix Try.underlying22 ty5 rfl (by first | assumption | exact Own.rd ‹_› | exact Rd.keep0 ‹_› hB | exact Own.rd (Own.keep0 ‹_› hB)) rfl (by omega)) rfl ?_
  refine ow_d0 (d_sto (u := .int .u8 z118) ty5 rfl rfl rfl o25 (blt_lt rfl)) ?_
  rintro _ w49 ⟨o26, k49, z119⟩
  have z_k49 := k49.size
  replace o26 : Own w49 _ 5 1 v1 32 [.int .u8 z46, .int .u8 z49, .int .u8 z52, .int .u8 z55, .int .u8 z58, .int .u8 z61, .int .u8 z64, .int .u8 z67, .int .u8 z70, .int .u8 z73, .int .u8 z76, .int .u8 z79, .int .u8 z82, .int .u8 z85, .int .u8 z88, .int .u8 z91, .int .u8 z94, .int .u8 z97, .int .u8 z100, .int .u8 z103, .int .u8 z106, .int .u8 z109, .int .u8 z112, .int .u8 z115, .int .u8 z118, .int .u8 0, .int .u8 0, .int .u8 0, .int .u8 0, .int .u8 0, .int .u8 0, .int .u8 0] := o26
  replace hb17 := hb17.keep k49 (fun hm => sb_b3_o1 _ hm rfl)
  replace hB := hB.new k49 (fun x hx => .inl (go_v1 x hx))
  clear z_k49 z119
  refine ow_nil (tw_keep [(5, _), (6, _), (74, _), (75, _)] ⟨rfl, rfl, rfl, rfl, trivial⟩ ?_)
  refine tw_b (tw_region (ow_g (g_fold (j := 25) (g_addw rfl rfl) (by decide)) rfl ?_))
  refine ow_g (g_mv rfl) rfl (ow_nil (tw_lp (tw_seq (tw_region (ow_g (g_lt rfl rfl) rfl ?_)))))
  refine ow_nil (tw_seq (tw_ifT rfl (by decide) ?_))
  refine tw_skip (tw_seq (tw_block (tw_seq (tw_region (ow_g (g_mv rfl) rfl (ow_g (g_as rfl) rfl ?_))))))
  refine ow_nil (tw_region (ow_g (g_mv rfl) rfl (ow_g (g_mv rfl) rfl (ow_g (g_mv rfl) rfl (ow_g (g_fold (j := 3) (g_quo rfl rfl (by decide)) (by decide)) rfl ?_)))))
  refine ow_g (g_ixa Try.underlying104 ty24 rfl rfl (by decide)) rfl ?_
  refine ow_g (g_ldb sc24 rfl hb17 rfl) rfl ?_
  refine ow_g (g_mv rfl) rfl (ow_g (g_fold (j := 1) (g_rem rfl rfl (by decide)) (by decide)) rfl ?_)
  refine ow_g (g_fold (j := 8) (g_mulw rfl rfl) (by decide)) rfl ?_
  refine ow_gx (e' := z41 / 256) (lo := 0) (hi := 36028797018963967) (g_shrp (m := 256) rfl rfl (by decide) rfl) (rfl) (In.wk (in_div r37 (by decide)) rfl) rfl (fun z120 h77 r88 => ?_)
  refine ow_gx (e' := z120 % 256) (lo := 0) (hi := 255) (g_cv (by rw [Try.underlying24]; rfl) Try.underlying5 rfl) (wrap_uns rfl _) (In.wk (in_mod _ (by decide)) rfl) rfl (fun z121 h78 r89 => ?_)
  refine ow_g (g_ix Try.underlying22 ty5 rfl (by first | assumption | exact Own.rd ‹_› | exact Rd.keep0 ‹_› hB | exact Own.rd (Own.keep0 ‹_› hB)) rfl (by omega)) rfl ?_
  refine ow_d0 (d_sto (u := .int .u8 z121) ty5 rfl rfl rfl o26 (blt_lt rfl)) ?_
  rintro _ w50 ⟨o27, k50, z122⟩
  have z_k50 := k50.size
  replace o27 : Own w50 _ 5 1 v1 32 [.int .u8 z46, .int .u8 z49, .int .u8 z52, .int .u8 z55, .int .u8 z58, .int .u8 z61, .int .u8 z64, .int .u8 z67, .int .u8 z70, .int .u8 z73, .int .u8 z76, .int .u8 z79, .int .u8 z82, .int .u8 z85, .int .u8 z88, .int .u8 z91, .int .u8 z94, .int .u8 z97, .int .u8 z100, .int .u8 z103, .int .u8 z106, .int .u8 z109, .int .u8 z112, .int .u8 z115, .int .u8 z118, .int .u8 z121, .int .u8 0, .int .u8 0, .int .u8 0, .int .u8 0, .int .u8 0, .int .u8 0] := o27
  replace hb17 := hb17.keep k50 (fun hm => sb_b3_o1 _ hm rfl)
  replace hB := hB.new k50 (fun x hx => .inl (go_v1 x hx))
  clear z_k50 z122
  refine ow_nil (tw_keep [(5, _), (6, _), (74, _), (75, _)] ⟨rfl, rfl, rfl, rfl, trivial⟩ ?_)
  refine tw_b (tw_region (ow_g (g_fold (j := 26) (g_addw rfl rfl) (by decide)) rfl ?_))
  refine ow_g (g_mv rfl) rfl (ow_nil (tw_lp (tw_seq (tw_region (ow_g (g_lt rfl rfl) rfl ?_)))))
  refine ow_nil (tw_seq (tw_ifT rfl (by decide) ?_))
  refine tw_skip (tw_seq (tw_block (tw_seq (tw_region (ow_g (g_mv rfl) rfl (ow_g (g_as rfl) rfl ?_))))))
  refine ow_nil (tw_region (ow_g (g_mv rfl) rfl (ow_g (g_mv rfl) rfl (ow_g (g_mv rfl) rfl (ow_g (g_fold (j := 3) (g_quo rfl rfl (by decide)) (by decide)) rfl ?_)))))
  refine ow_g (g_ixa Try.underlying104 ty24 rfl rfl (by decide)) rfl ?_
  refine ow_g (g_ldb sc24 rfl hb17 rfl) rfl ?_
  refine ow_g (g_mv rfl) rfl (ow_g (g_fold (j := 2) (g_rem rfl rfl (by decide)) (by decide)) rfl ?_)
  refine ow_g (g_fold (j := 16) (g_mulw rfl rfl) (by decide)) rfl ?_
  refine ow_gx (e' := z41 / 65536) (lo := 0) (hi := 140737488355327) (g_shrp (m := 65536) rfl rfl (by decide) rfl) (rfl) (In.wk (in_div r37 (by decide)) rfl) rfl (fun z123 h79 r90 => ?_)
  refine ow_gx (e' := z123 % 256) (lo := 0) (hi := 255) (g_cv (by rw [Try.underlying24]; rfl) Try.underlying5 rfl) (wrap_uns rfl _) (In.wk (in_mod _ (by decide)) rfl) rfl (fun z124 h80 r91 => ?_)
  refine ow_g (g_ix Try.underlying22 ty5 rfl (by first | assumption | exact Own.rd ‹_› | exact Rd.keep0 ‹_› hB | exact Own.rd (Own.keep0 ‹_› hB)) rfl (by omega)) rfl ?_
  refine ow_d0 (d_sto (u := .int .u8 z124) ty5 rfl rfl rfl o27 (blt_lt rfl)) ?_
  rintro _ w51 ⟨o28, k51, z125⟩
  have z_k51 := k51.size
  replace o28 : Own w51 _ 5 1 v1 32 [.int .u8 z46, .int .u8 z49, .int .u8 z52, .int .u8 z55, .int .u8 z58, .int .u8 z61, .int .u8 z64, .int .u8 z67, .int .u8 z70, .int .u8 z73, .int .u8 z76, .int .u8 z79, .int .u8 z82, .int .u8 z85, .int .u8 z88, .int .u8 z91, .int .u8 z94, .int .u8 z97, .int .u8 z100, .int .u8 z103, .int .u8 z106, .int .u8 z109, .int .u8 z112, .int .u8 z115, .int .u8 z118, .int .u8 z121, .int .u8 z124, .int .u8 0, .int .u8 0, .int .u8 0, .int .u8 0, .int .u8 0] := o28
  replace hb17 := hb17.keep k51 (fun hm => sb_b3_o1 _ hm rfl)
  replace hB := hB.new k51 (fun x hx => .inl (go_v1 x hx))
  clear z_k51 z125
  refine ow_nil (tw_keep [(5, _), (6, _), (74, _), (75, _)] ⟨rfl, rfl, rfl, rfl, trivial⟩ ?_)
  refine tw_b (tw_region (ow_g (g_fold (j := 27) (g_addw rfl rfl) (by decide)) rfl ?_))
  refine ow_g (g_mv rfl) rfl (ow_nil (tw_lp (tw_seq (tw_region (ow_g (g_lt rfl rfl) rfl ?_)))))
  refine ow_nil (tw_seq (tw_ifT rfl (by decide) ?_))
  refine tw_skip (tw_seq (tw_block (tw_seq (tw_region (ow_g (g_mv rfl) rfl (ow_g (g_as rfl) rfl ?_))))))
  refine ow_nil (tw_region (ow_g (g_mv rfl) rfl (ow_g (g_mv rfl) rfl (ow_g (g_mv rfl) rfl (ow_g (g_fold (j := 3) (g_quo rfl rfl (by decide)) (by decide)) rfl ?_)))))
  refine ow_g (g_ixa Try.underlying104 ty24 rfl rfl (by decide)) rfl ?_
  refine ow_g (g_ldb sc24 rfl hb17 rfl) rfl ?_
  refine ow_g (g_mv rfl) rfl (ow_g (g_fold (j := 3) (g_rem rfl rfl (by decide)) (by decide)) rfl ?_)
  refine ow_g (g_fold (j := 24) (g_mulw rfl rfl) (by decide)) rfl ?_
  refine ow_gx (e' := z41 / 16777216) (lo := 0) (hi := 549755813887) (g_shrp (m := 16777216) rfl rfl (by decide) rfl) (rfl) (In.wk (in_div r37 (by decide)) rfl) rfl (fun z126 h81 r92 => ?_)
  refine ow_gx (e' := z126 % 256) (lo := 0) (hi := 255) (g_cv (by rw [Try.underlying24]; rfl) Try.underlying5 rfl) (wrap_uns rfl _) (In.wk (in_mod _ (by decide)) rfl) rfl (fun z127 h82 r93 => ?_)
  refine ow_g (g_ix Try.underlying22 ty5 rfl (by first | assumption | exact Own.rd ‹_› | exact Rd.keep0 ‹_› hB | exact Own.rd (Own.keep0 ‹_› hB)) rfl (by omega)) rfl ?_
  refine ow_d0 (d_sto (u := .int .u8 z127) ty5 rfl rfl rfl o28 (blt_lt rfl)) ?_
  rintro _ w52 ⟨o29, k52, z128⟩
  have z_k52 := k52.size
  replace o29 : Own w52 _ 5 1 v1 32 [.int .u8 z46, .int .u8 z49, .int .u8 z52, .int .u8 z55, .int .u8 z58, .int .u8 z61, .int .u8 z64, .int .u8 z67, .int .u8 z70, .int .u8 z73, .int .u8 z76, .int .u8 z79, .int .u8 z82, .int .u8 z85, .int .u8 z88, .int .u8 z91, .int .u8 z94, .int .u8 z97, .int .u8 z100, .int .u8 z103, .int .u8 z106, .int .u8 z109, .int .u8 z112, .int .u8 z115, .int .u8 z118, .int .u8 z121, .int .u8 z124, .int .u8 z127, .int .u8 0, .int .u8 0, .int .u8 0, .int .u8 0] := o29
  replace hb17 := hb17.keep k52 (fun hm => sb_b3_o1 _ hm rfl)
  replace hB := hB.new k52 (fun x hx => .inl (go_v1 x hx))
  clear z_k52 z128
  refine ow_nil (tw_keep [(5, _), (6, _), (74, _), (75, _)] ⟨rfl, rfl, rfl, rfl, trivial⟩ ?_)
  refine tw_b (tw_region (ow_g (g_fold (j := 28) (g_addw rfl rfl) (by decide)) rfl ?_))
  refine ow_g (g_mv rfl) rfl (ow_nil (tw_lp (tw_seq (tw_region (ow_g (g_lt rfl rfl) rfl ?_)))))
  refine ow_nil (tw_seq (tw_ifT rfl (by decide) ?_))
  refine tw_skip (tw_seq (tw_block (tw_seq (tw_region (ow_g (g_mv rfl) rfl (ow_g (g_as rfl) rfl ?_))))))
  refine ow_nil (tw_region (ow_g (g_mv rfl) rfl (ow_g (g_mv rfl) rfl (ow_g (g_mv rfl) rfl (ow_g (g_fold (j := 3) (g_quo rfl rfl (by decide)) (by decide)) rfl ?_)))))
  refine ow_g (g_ixa Try.underlying104 ty24 rfl rfl (by decide)) rfl ?_
  refine ow_g (g_ldb sc24 rfl hb17 rfl) rfl ?_
  refine ow_g (g_mv rfl) rfl (ow_g (g_fold (j := 4) (g_rem rfl rfl (by decide)) (by decide)) rfl ?_)
  refine ow_g (g_fold (j := 32) (g_mulw rfl rfl) (by decide)) rfl ?_
  refine ow_gx (e' := z41 / 4294967296) (lo := 0) (hi := 2147483647) (g_shrp (m := 4294967296) rfl rfl (by decide) rfl) (rfl) (In.wk (in_div r37 (by decide)) rfl) rfl (fun z129 h83 r94 => ?_)
  refine ow_gx (e' := z129 % 256) (lo := 0) (hi := 255) (g_cv (by rw [Try.underlying24]; rfl) Try.underlying5 rfl) (wrap_uns rfl _) (In.wk (in_mod _ (by decide)) rfl) rfl (fun z130 h84 r95 => ?_)
  refine ow_g (g_ix Try.underlying22 ty5 rfl (by first | assumption | exact Own.rd ‹_› | exact Rd.keep0 ‹_› hB | exact Own.rd (Own.keep0 ‹_› hB)) rfl (by omega)) rfl ?_
  refine ow_d0 (d_sto (u := .int .u8 z130) ty5 rfl rfl rfl o29 (blt_lt rfl)) ?_
  rintro _ w53 ⟨o30, k53, z131⟩
  have z_k53 := k53.size
  replace o30 : Own w53 _ 5 1 v1 32 [.int .u8 z46, .int .u8 z49, .int .u8 z52, .int .u8 z55, .int .u8 z58, .int .u8 z61, .int .u8 z64, .int .u8 z67, .int .u8 z70, .int .u8 z73, .int .u8 z76, .int .u8 z79, .int .u8 z82, .int .u8 z85, .int .u8 z88, .int .u8 z91, .int .u8 z94, .int .u8 z97, .int .u8 z100, .int .u8 z103, .int .u8 z106, .int .u8 z109, .int .u8 z112, .int .u8 z115, .int .u8 z118, .int .u8 z121, .int .u8 z124, .int .u8 z127, .int .u8 z130, .int .u8 0, .int .u8 0, .int .u8 0] := o30
  replace hb17 := hb17.keep k53 (fun hm => sb_b3_o1 _ hm rfl)
  replace hB := hB.new k53 (fun x hx => .inl (go_v1 x hx))
  clear z_k53 z131
  refine ow_nil (tw_keep [(5, _), (6, _), (74, _), (75, _)] ⟨rfl, rfl, rfl, rfl, trivial⟩ ?_)
  refine tw_b (tw_region (ow_g (g_fold (j := 29) (g_addw rfl rfl) (by decide)) rfl ?_))
  refine ow_g (g_mv rfl) rfl (ow_nil (tw_lp (tw_seq (tw_region (ow_g (g_lt rfl rfl) rfl ?_)))))
  refine ow_nil (tw_seq (tw_ifT rfl (by decide) ?_))
  refine tw_skip (tw_seq (tw_block (tw_seq (tw_region (ow_g (g_mv rfl) rfl (ow_g (g_as rfl) rfl ?_))))))
  refine ow_nil (tw_region (ow_g (g_mv rfl) rfl (ow_g (g_mv rfl) rfl (ow_g (g_mv rfl) rfl (ow_g (g_fold (j := 3) (g_quo rfl rfl (by decide)) (by decide)) rfl ?_)))))
  refine ow_g (g_ixa Try.underlying104 ty24 rfl rfl (by decide)) rfl ?_
  refine ow_g (g_ldb sc24 rfl hb17 rfl) rfl ?_
  refine ow_g (g_mv rfl) rfl (ow_g (g_fold (j := 5) (g_rem rfl rfl (by decide)) (by decide)) rfl ?_)
  refine ow_g (g_fold (j := 40) (g_mulw rfl rfl) (by decide)) rfl ?_
  refine ow_gx (e' := z41 / 1099511627776) (lo := 0) (hi := 8388607) (g_shrp (m := 1099511627776) rfl rfl (by decide) rfl) (rfl) (In.wk (in_div r37 (by decide)) rfl) rfl (fun z132 h85 r96 => ?_)
  refine ow_gx (e' := z132 % 256) (lo := 0) (hi := 255) (g_cv (by rw [Try.underlying24]; rfl) Try.underlying5 rfl) (wrap_uns rfl _) (In.wk (in_mod _ (by decide)) rfl) rfl (fun z133 h86 r97 => ?_)
  refine ow_g (g_ix Try.underlying22 ty5 rfl (by first | assumption | exact Own.rd ‹_› | exact Rd.keep0 ‹_› hB | exact Own.rd (Own.keep0 ‹_› hB)) rfl (by omega)) rfl ?_
  refine ow_d0 (d_sto (u := .int .u8 z133) ty5 rfl rfl rfl o30 (blt_lt rfl)) ?_
  rintro _ w54 ⟨o31, k54, z134⟩
  have z_k54 := k54.size
  replace o31 : Own w54 _ 5 1 v1 32 [.int .u8 z46, .int .u8 z49, .int .u8 z52, .int .u8 z55, .int .u8 z58, .int .u8 z61, .int .u8 z64, .int .u8 z67, .int .u8 z70, .int .u8 z73, .int .u8 z76, .int .u8 z79, .int .u8 z82, .int .u8 z85, .int .u8 z88, .int .u8 z91, .int .u8 z94, .int .u8 z97, .int .u8 z100, .int .u8 z103, .int .u8 z106, .int .u8 z109, .int .u8 z112, .int .u8 z115, .int .u8 z118, .int .u8 z121, .int .u8 z124, .int .u8 z127, .int .u8 z130, .int .u8 z133, .int .u8 0, .int .u8 0] := o31
  replace hb17 := hb17.keep k54 (fun hm => sb_b3_o1 _ hm rfl)
  replace hB := hB.new k54 (fun x hx => .inl (go_v1 x hx))
  clear z_k54 z134
  refine ow_nil (tw_keep [(5, _), (6, _), (74, _), (75, _)] ⟨rfl, rfl, rfl, rfl, trivial⟩ ?_)
  refine tw_b (tw_region (ow_g (g_fold (j := 30) (g_addw rfl rfl) (by decide)) rfl ?_))
  refine ow_g (g_mv rfl) rfl (ow_nil (tw_lp (tw_seq (tw_region (ow_g (g_lt rfl rfl) rfl ?_)))))
  refine ow_nil (tw_seq (tw_ifT rfl (by decide) ?_))
  refine tw_skip (tw_seq (tw_block (tw_seq (tw_region (ow_g (g_mv rfl) rfl (ow_g (g_as rfl) rfl ?_))))))
  refine ow_nil (tw_region (ow_g (g_mv rfl) rfl (ow_g (g_mv rfl) rfl (ow_g (g_mv rfl) rfl (ow_g (g_fold (j := 3) (g_quo rfl rfl (by decide)) (by decide)) rfl ?_)))))
  refine ow_g (g_ixa Try.underlying104 ty24 rfl rfl (by decide)) rfl ?_
  refine ow_g (g_ldb sc24 rfl hb17 rfl) rfl ?_
  refine ow_g (g_mv rfl) rfl (ow_g (g_fold (j := 6) (g_rem rfl rfl (by decide)) (by decide)) rfl ?_)
  refine ow_g (g_fold (j := 48) (g_mulw rfl rfl) (by decide)) rfl ?_
  refine ow_gx (e' := z41 / 281474976710656) (lo := 0) (hi := 32767) (g_shrp (m := 281474976710656) rfl rfl (by decide) rfl) (rfl) (In.wk (in_div r37 (by decide)) rfl) rfl (fun z135 h87 r98 => ?_)
  refine ow_gx (e' := z135 % 256) (lo := 0) (hi := 255) (g_cv (by rw [Try.underlying24]; rfl) Try.underlying5 rfl) (wrap_uns rfl _) (In.wk (in_mod _ (by decide)) rfl) rfl (fun z136 h88 r99 => ?_)
  refine ow_g (g_ix Try.underlying22 ty5 rfl (by first | assumption | exact Own.rd ‹_› | exact Rd.keep0 ‹_› hB | exact Own.rd (Own.keep0 ‹_› hB)) rfl (by omega)) rfl ?_
  refine ow_d0 (d_sto (u := .int .u8 z136) ty5 rfl rfl rfl o31 (blt_lt rfl)) ?_
  rintro _ w55 ⟨o32, k55, z137⟩
  have z_k55 := k55.size
  replace o32 : Own w55 _ 5 1 v1 32 [.int .u8 z46, .int .u8 z49, .int .u8 z52, .int .u8 z55, .int .u8 z58, .int .u8 z61, .int .u8 z64, .int .u8 z67, .int .u8 z70, .int .u8 z73, .int .u8 z76, .int .u8 z79, .int .u8 z82, .int .u8 z85, .int .u8 z88, .int .u8 z91, .int .u8 z94, .int .u8 z97, .int .u8 z100, .int .u8 z103, .int .u8 z106, .int .u8 z109, .int .u8 z112, .int .u8 z115, .int .u8 z118, .int .u8 z121, .int .u8 z124, .int .u8 z127, .int .u8 z130, .int .u8 z133, .int .u8 z136, .int .u8 0] := o32
  replace hb17 := hb17.keep k55 (fun hm => sb_b3_o1 _ hm rfl)
  replace hB := hB.new k55 (fun x hx => .inl (go_v1 x hx))
  clear z_k55 z137
  refine ow_nil (tw_keep [(5, _), (6, _), (74, _), (75, _)] ⟨rfl, rfl, rfl, rfl, trivial⟩ ?_)
  refine tw_b (tw_region (ow_g (g_fold (j := 31) (g_addw rfl rfl) (by decide)) rfl ?_))
  refine ow_g (g_mv rfl) rfl (ow_nil (tw_lp (tw_seq (tw_region (ow_g (g_lt rfl rfl) rfl ?_)))))
  refine ow_nil (tw_seq (tw_ifT rfl (by decide) ?_))
  refine tw_skip (tw_seq (tw_block (tw_seq (tw_region (ow_g (g_mv rfl) rfl (ow_g (g_as rfl) rfl ?_))))))
  refine ow_nil (tw_region (ow_g (g_mv rfl) rfl (ow_g (g_mv rfl) rfl (ow_g (g_mv rfl) rfl (ow_g (g_fold (j := 3) (g_quo rfl rfl (by decide)) (by decide)) rfl ?_)))))
  refine ow_g (g_ixa Try.underlying104 ty24 rfl rfl (by decide)) rfl ?_
  refine ow_g (g_ldb sc24 rfl hb17 rfl) rfl ?_
  refine ow_g (g_mv rfl) rfl (ow_g (g_fold (j := 7) (g_rem rfl rfl (by decide)) (by decide)) rfl ?_)
  refine ow_g (g_fold (j := 56) (g_mulw rfl rfl) (by decide)) rfl ?_
  refine ow_gx (e' := z41 / 72057594037927936) (lo := 0) (hi := 127) (g_shrp (m := 72057594037927936) rfl rfl (by decide) rfl) (rfl) (In.wk (in_div r37 (by decide)) rfl) rfl (fun z138 h89 r100 => ?_)
  refine ow_gx (e' := z138) (lo := 0) (hi := 127) (g_cv (by rw [Try.underlying24]; rfl) Try.underlying5 rfl) (wrap_fit r100 rfl) (r100) rfl (fun z139 h90 r101 => ?_)
  refine ow_g (g_ix Try.underlying22 ty5 rfl (by first | assumption | exact Own.rd ‹_› | exact Rd.keep0 ‹_› hB | exact Own.rd (Own.keep0 ‹_› hB)) rfl (by omega)) rfl ?_
  refine ow_d0 (d_sto (u := .int .u8 z139) ty5 rfl rfl rfl o32 (blt_lt rfl)) ?_
  rintro _ w56 ⟨o33, k56, z140⟩
  have z_k56 := k56.size
  replace o33 : Own w56 _ 5 1 v1 32 [.int .u8 z46, .int .u8 z49, .int .u8 z52, .int .u8 z55, .int .u8 z58, .int .u8 z61, .int .u8 z64, .int .u8 z67, .int .u8 z70, .int .u8 z73, .int .u8 z76, .int .u8 z79, .int .u8 z82, .int .u8 z85, .int .u8 z88, .int .u8 z91, .int .u8 z94, .int .u8 z97, .int .u8 z100, .int .u8 z103, .int .u8 z106, .int .u8 z109, .int .u8 z112, .int .u8 z115, .int .u8 z118, .int .u8 z121, .int .u8 z124, .int .u8 z127, .int .u8 z130, .int .u8 z133, .int .u8 z136, .int .u8 z139] := o33
  replace hb17 := hb17.keep k56 (fun hm => sb_b3_o1 _ hm rfl)
  replace hB := hB.new k56 (fun x hx => .inl (go_v1 x hx))
  clear z_k56 z140
  refine ow_nil (tw_keep [(5, _), (6, _), (74, _), (75, _)] ⟨rfl, rfl, rfl, rfl, trivial⟩ ?_)
  refine tw_b (tw_region (ow_g (g_fold (j := 32) (g_addw rfl rfl) (by decide)) rfl ?_))
  refine ow_g (g_mv rfl) rfl (ow_nil (tw_lp (tw_seq (tw_region (ow_g (g_lt rfl rfl) rfl ?_)))))
  refine ow_nil (tw_seq (tw_ifF rfl (by decide) ?_))
  refine tw_exit rfl ?_
  refine tw_seq (tw_region (ow_g (g_mv rfl) rfl (ow_g (g_as rfl) rfl (ow_nil (tw_ret1 hfin Try.results68 rfl ?_)))))
  have hv2 : val5 hh2 = hh2 0 + hh2 1 * 2251799813685248 + hh2 2 * 5070602400912917605986812821504 + hh2 3 * 11417981541647679048466287755595961091061972992 + hh2 4 * 25711008708143844408671393477458601640355247900524685364822016 := rfl
  have hV0 : In (z10 + z15 * 2251799813685248 + z20 * 5070602400912917605986812821504 + z25 * 11417981541647679048466287755595961091061972992 + z28 * 25711008708143844408671393477458601640355247900524685364822016) 0 (57896044618658097711785492504343953926634992332820282019728792003956564819949 - 1) := by clear e01 e11 e21 e31 e41 g01 g11 g21 g31 g41 e02 e12 e22 e32 e42 g02 g12 g22 g32 g42 gv1 gv2; simp only [Eqn, In] at h1 h2 h3 h4 h5 h6 h7 h8 h9 h10 h11 h12 h13 h14 h15 r15 r18 r21 r24 r26 r11 r7 r8 r9 r10 ⊢; omega
  have hVa : fp (z10 + z15 * 2251799813685248 + z20 * 5070602400912917605986812821504 + z25 * 11417981541647679048466287755595961091061972992 + z28 * 25711008708143844408671393477458601640355247900524685364822016) = a := by rw [← hfv]; exact fp_eq (-(c41 + c42 + 1)) (by have gv1 := gv1; have gv2 := gv2; clear e01 e11 e21 e31 e41 g01 g11 g21 g31 g41 e02 e12 e22 e32 e42 g02 g12 g22 g32 g42; simp only [Eqn, In] at h1 h2 h3 h4 h5 h6 h7 h8 h9 h10 h11 h12 h13 h14 h15 r15 r18 r21 r24 r26 r11 r7 r8 r9 r10; omega)
  have hval : (a.val : Int) = (z10 + z15 * 2251799813685248 + z20 * 5070602400912917605986812821504 + z25 * 11417981541647679048466287755595961091061972992 + z28 * 25711008708143844408671393477458601640355247900524685364822016) := val_of hVa hV0.1 (by have := hV0.2; omega)
  have hpw := put_words (In.wk r15 rfl) (In.wk r18 rfl) (In.wk r21 rfl) (In.wk r24 rfl) (In.wk r26 rfl)
  have hwb := words_bytes (V := (z10 + z15 * 2251799813685248 + z20 * 5070602400912917605986812821504 + z25 * 11417981541647679048466287755595961091061972992 + z28 * 25711008708143844408671393477458601640355247900524685364822016)) (In.wk r28 rfl) (In.wk r31 rfl) (In.wk r34 rfl) (In.wk r37 rfl) (by clear hval hVa hV0; simp only [Eqn] at h26 h25 h24 h23 h22 h21 h20 h19 h18 h17 h16; subst h26 h25 h24 h23 h22 h21 h20 h19 h18 h17 h16; exact hpw)
  have hcs : [.int .u8 z46, .int .u8 z49, .int .u8 z52, .int .u8 z55, .int .u8 z58, .int .u8 z61, .int .u8 z64, .int .u8 z67, .int .u8 z70, .int .u8 z73, .int .u8 z76, .int .u8 z79, .int .u8 z82, .int .u8 z85, .int .u8 z88, .int .u8 z91, .int .u8 z94, .int .u8 z97, .int .u8 z100, .int .u8 z103, .int .u8 z106, .int .u8 z109, .int .u8 z112, .int .u8 z115, .int .u8 z118, .int .u8 z121, .int .u8 z124, .int .u8 z127, .int .u8 z130, .int .u8 z133, .int .u8 z136, .int .u8 z139] = bv (fpB a) := by
   rw [bv_fpB, hval, hwb]
   simp only [Eqn] at h90 h89 h88 h87 h86 h85 h84 h83 h82 h81 h80 h79 h78 h77 h76 h75 h74 h73 h72 h71 h70 h69 h68 h67 h66 h65 h64 h63 h62 h61 h60 h59 h58 h57 h56 h55 h54 h53 h52 h51 h50 h49 h48 h47 h46 h45 h44 h43 h42 h41 h40 h39 h38 h37 h36 h35 h34 h33 h32 h31 h30 h29 h28 h27
   simp only [h90, h89, h88, h87, h86, h85, h84, h83, h82, h81, h80, h79, h78, h77, h76, h75, h74, h73, h72, h71, h70, h69, h68, h67, h66, h65, h64, h63, h62, h61, h60, h59, h58, h57, h56, h55, h54, h53, h52, h51, h50, h49, h48, h47, h46, h45, h44, h43, h42, h41, h40, h39, h38, h37, h36, h35, h34, h33, h32, h31, h30, h29, h28, h27, Int.ediv_one]
  rw [hcs] at o33
  exact ⟨by unfold OwnB; rw [fpB_length]; exact o33.lo gl_v1, hB⟩
 ·
  refine tw_skip (tw_seq (tw_region (ow_g (g_ixa Try.underlying26 ty24 rfl rfl (by decide)) rfl ?_)))
  refine ow_g (g_ldb sc24 rfl hb2 rfl) rfl ?_
  refine ow_g (g_ixa Try.underlying26 ty24 rfl rfl (by decide)) rfl ?_
  refine ow_g (g_ldb sc24 rfl hb2 rfl) rfl ?_
  refine ow_gx (e' := ((hh2 1) * 2251799813685248) % 18446744073709551616) (lo := 0) (hi := 18446744073709551615) (g_shlp (m := 2251799813685248) rfl rfl (by decide) rfl) (wrap_uns rfl _) (In.wk (in_mod _ (by decide)) rfl) rfl (fun z141 h91 r102 => ?_)
  refine ow_gx (e' := (hh2 0) + z141) (lo := 0) (hi := 18446744073709551615) (g_or rfl rfl) (or_join' 51 (m := 2251799813685248) r102 rfl r11 rfl rfl rfl rfl (eq_mod h91 (mul_mod_mod _ (by decide))) rfl rfl) (In.wk (or_in (k := .u64) rfl (or_join' 51 (m := 2251799813685248) r102 rfl r11 rfl rfl rfl rfl (eq_mod h91 (mul_mod_mod _ (by decide))) rfl rfl)) rfl) rfl (fun z142 h92 r103 => ?_)
  refine ow_g (g_ixa Try.underlying26 ty24 rfl rfl (by decide)) rfl ?_
  refine ow_g (g_ldb sc24 rfl hb2 rfl) rfl ?_
  refine ow_gx (e' := (hh2 1) / 8192) (lo := 0) (hi := 274877906943) (g_shrp (m := 8192) rfl rfl (by decide) rfl) (rfl) (In.wk (in_div r7 (by decide)) rfl) rfl (fun z143 h93 r104 => ?_)
  refine ow_g (g_ixa Try.underlying26 ty24 rfl rfl (by decide)) rfl ?_
  refine ow_g (g_ldb sc24 rfl hb2 rfl) rfl ?_
  refine ow_gx (e' := ((hh2 2) * 274877906944) % 18446744073709551616) (lo := 0) (hi := 18446744073709551615) (g_shlp (m := 274877906944) rfl rfl (by decide) rfl) (wrap_uns rfl _) (In.wk (in_mod _ (by decide)) rfl) rfl (fun z144 h94 r105 => ?_)
  refine ow_gx (e' := z143 + z144) (lo := 0) (hi := 18446744073709551615) (g_or rfl rfl) (or_join' 38 (m := 274877906944) r105 rfl r104 rfl rfl rfl rfl (eq_mod h94 (mul_mod_mod _ (by decide))) rfl rfl) (In.wk (or_in (k := .u64) rfl (or_join' 38 (m := 274877906944) r105 rfl r104 rfl rfl rfl rfl (eq_mod h94 (mul_mod_mod _ (by decide))) rfl rfl)) rfl) rfl (fun z145 h95 r106 => ?_)
  refine ow_g (g_ixa Try.underlying26 ty24 rfl rfl (by decide)) rfl ?_
  refine ow_g (g_ldb sc24 rfl hb2 rfl) rfl ?_
  refine ow_gx (e' := (hh2 2) / 67108864) (lo := 0) (hi := 33554431) (g_shrp (m := 67108864) rfl rfl (by decide) rfl) (rfl) (In.wk (in_div r8 (by decide)) rfl) rfl (fun z146 h96 r107 => ?_)
  refine ow_g (g_ixa Try.underlying26 ty24 rfl rfl (by decide)) rfl ?_
  refine ow_g (g_ldb sc24 rfl hb2 rfl) rfl ?_
  refine ow_gx (e' := ((hh2 3) * 33554432) % 18446744073709551616) (lo := 0) (hi := 18446744073709551615) (g_shlp (m := 33554432) rfl rfl (by decide) rfl) (wrap_uns rfl _) (In.wk (in_mod _ (by decide)) rfl) rfl (fun z147 h97 r108 => ?_)
  refine ow_gx (e' := z146 + z147) (lo := 0) (hi := 18446744073709551615) (g_or rfl rfl) (or_join' 25 (m := 33554432) r108 rfl r107 rfl rfl rfl rfl (eq_mod h97 (mul_mod_mod _ (by decide))) rfl rfl) (In.wk (or_in (k := .u64) rfl (or_join' 25 (m := 33554432) r108 rfl r107 rfl rfl rfl rfl (eq_mod h97 (mul_mod_mod _ (by decide))) rfl rfl)) rfl) rfl (fun z148 h98 r109 => ?_)
  refine ow_g (g_ixa Try.underlying26 ty24 rfl rfl (by decide)) rfl ?_
  refine ow_g (g_ldb sc24 rfl hb2 rfl) rfl ?_
  refine ow_gx (e' := (hh2 3) / 549755813888) (lo := 0) (hi := 4095) (g_shrp (m := 549755813888) rfl rfl (by decide) rfl) (rfl) (In.wk (in_div r9 (by decide)) rfl) rfl (fun z149 h99 r110 => ?_)
  refine ow_g (g_ixa Try.underlying26 ty24 rfl rfl (by decide)) rfl ?_
  refine ow_g (g_ldb sc24 rfl hb2 rfl) rfl ?_
  refine ow_gx (e' := (hh2 4) * 4096) (lo := 0) (hi := 9223372036854771712) (g_shlp (m := 4096) rfl rfl (by decide) rfl) (wrap_fit (in_mulc r10 (by decide)) rfl) (In.wk (in_mulc r10 (by decide)) rfl) rfl (fun z150 h100 r111 => ?_)
  refine ow_gx (e' := z149 + z150) (lo := 0) (hi := 9223372036854775807) (g_or rfl rfl) (or_join' 12 (m := 4096) r111 rfl r110 rfl rfl rfl rfl (eq_mod h100 (Int.mul_emod_left _ _)) rfl rfl) (In.wk (in_add r110 r111) rfl) rfl (fun z151 h101 r112 => ?_)
  refine ow_g (g_blda (idx := [0, 1, 2, 3]) (xs := [.tmp 49, .tmp 56, .tmp 63, .tmp 70]) (vs := [_, _, _, _]) (css := [[.int .u64 z142], [.int .u64 z145], [.int .u64 z148], [.int .u64 z151]]) (out := [.int .u64 z142, .int .u64 z145, .int .u64 z148, .int .u64 z151]) Try.underlying104 ty24 ty104 (arr_pls 4 1) rfl rfl ⟨rfl, rfl, rfl, rfl, trivial⟩ rfl rfl) rfl ?_
  refine ow_d (d_alloc ty104) rfl ?_
  rintro _ w57 ⟨b4, rfl, eb4, hb18, k57, z152⟩
  have ge_b4 : w.heap.size ≤ b4 := by have := hB.size; omega
  have ne_b1_b4 : b1 ≠ b4 := by have := hb2.lt; omega
  have ne_b2_b4 : b2 ≠ b4 := by have := hb13.lt; omega
  replace hb2 := hb2.keep0 k57
  replace hb13 := hb13.keep0 k57
  replace hB := hB.trans k57
  clear eb4 z152
  refine ow_d0 (d_sta ty104 rfl rfl rfl (by simp only [List.forall_mem_cons]; refine ⟨rfl, rfl, rfl, rfl, fun v hv => by cases hv⟩) hb18 rfl) ?_
  rintro _ w58 ⟨hb19, k58, z153⟩
  replace hb2 := hb2.keep k58 (fun hm => absurd (List.mem_singleton.1 hm) ne_b1_b4)
  replace hb13 := hb13.keep k58 (fun hm => absurd (List.mem_singleton.1 hm) ne_b2_b4)
  replace hB := hB.new k58 (fun x hx => .inl ((List.mem_singleton.1 hx) ▸ ge_b4))
  clear z153
  replace hb19 : Bk w58 b4 _ [.int .u64 z142, .int .u64 z145, .int .u64 z148, .int .u64 z151] := hb19
  refine ow_nil (tw_seq (tw_region (ow_d (d_mk Try.underlying22 ty5 rfl rfl (by omega) (by constructor <;> omega)) rfl ?_)))
  rintro v2 w59 ⟨o34, nn2, lb2, k59, z154⟩
  have go_v2 := fun x hx => (show w.heap.size ≤ x from by have h1 := (o34.blk x hx).1; have h2 := hB.size; omega)
  have gl_v2 := hB.size
  have gl_o34 := hB.size
  have sb_b1_o34 := fun x hx => (show x ≠ b1 from by have h1 := (o34.blk x hx).1; have h2 := hb2.lt; omega)
  have sb_b2_o34 := fun x hx => (show x ≠ b2 from by have h1 := (o34.blk x hx).1; have h2 := hb13.lt; omega)
  have sb_b4_o34 := fun x hx => (show x ≠ b4 from by have h1 := (o34.blk x hx).1; have h2 := hb19.lt; omega)
  replace hb2 := hb2.keep0 k59
  replace hb13 := hb13.keep0 k59
  replace hb19 := hb19.keep0 k59
  replace hB := hB.trans k59
  have u_o34 := o34.blk
  replace o34 : Own w59 _ 5 1 v2 32 [.int .u8 0, .int .u8 0, .int .u8 0, .int .u8 0, .int .u8 0, .int .u8 0, .int .u8 0, .int .u8 0, .int .u8 0, .int .u8 0, .int .u8 0, .int .u8 0, .int .u8 0, .int .u8 0, .int .u8 0, .int .u8 0, .int .u8 0, .int .u8 0, .int .u8 0, .int .u8 0, .int .u8 0, .int .u8 0, .int .u8 0, .int .u8 0, .int .u8 0, .int .u8 0, .int .u8 0, .int .u8 0, .int .u8 0, .int .u8 0, .int .u8 0, .int .u8 0] := o34
  refine ow_g (g_as rfl) rfl (ow_nil (tw_keep [(5, _), (6, _)] ⟨rfl, rfl, trivial⟩ ?_))
  refine tw_seq (tw_seq (tw_region (ow_g (g_mv rfl) rfl (ow_g (g_len Try.underlying22 rfl (by first | assumption | exact Own.rd ‹_› | exact Rd.keep0 ‹_› hB | exact Own.rd (Own.keep0 ‹_› hB))) rfl ?_))))
  refine ow_g (g_mv rfl) rfl (ow_nil (tw_block (tw_unroll 32 ?_)))
  refine tw_seq (tw_region (ow_g (g_lt rfl rfl) rfl ?_))
  refine ow_nil (tw_seq (tw_ifT rfl (by decide) ?_))
  refine tw_skip (tw_seq (tw_block (tw_seq (tw_region (ow_g (g_mv rfl) rfl (ow_g (g_as rfl) rfl ?_))))))
  refine ow_nil (tw_region (ow_g (g_mv rfl) rfl (ow_g (g_mv rfl) rfl (ow_g (g_mv rfl) rfl (ow_g (g_fold (j := 0) (g_quo rfl rfl (by decide)) (by decide)) rfl ?_)))))
  refine ow_g (g_ixa Try.underlying104 ty24 rfl rfl (by decide)) rfl ?_
  refine ow_g (g_ldb sc24 rfl hb19 rfl) rfl ?_
  refine ow_g (g_mv rfl) rfl (ow_g (g_fold (j := 0) (g_rem rfl rfl (by decide)) (by decide)) rfl ?_)
  refine ow_g (g_fold (j := 0) (g_mulw rfl rfl) (by decide)) rfl ?_
  refine ow_gx (e' := z142 / 1) (lo := 0) (hi := 18446744073709551615) (g_shrp (m := 1) rfl rfl (by decide) rfl) (rfl) (In.wk (in_div r103 (by decide)) rfl) rfl (fun z155 h102 r113 => ?_)
  refine ow_gx (e' := z155 % 256) (lo := 0) (hi := 255) (g_cv (by rw [Try.underlying24]; rfl) Try.underlying5 rfl) (wrap_uns rfl _) (In.wk (in_mod _ (by decide)) rfl) rfl (fun z156 h103 r114 => ?_)
  refine ow_g (g_ix Try.underlying22 ty5 rfl (by first | assumption | exact Own.rd ‹_› | exact Rd.keep0 ‹_› hB | exact Own.rd (Own.keep0 ‹_› hB)) rfl (by omega)) rfl ?_
  refine ow_d0 (d_sto (u := .int .u8 z156) ty5 rfl rfl rfl o34 (blt_lt rfl)) ?_
  rintro _ w60 ⟨o35, k60, z157⟩
  have z_k60 := k60.size
  replace o35 : Own w60 _ 5 1 v2 32 [.int .u8 z156, .int .u8 0, .int .u8 0, .int .u8 0, .int .u8 0, .int .u8 0, .int .u8 0, .int .u8 0, .int .u8 0, .int .u8 0, .int .u8 0, .int .u8 0, .int .u8 0, .int .u8 0, .int .u8 0, .int .u8 0, .int .u8 0, .int .u8 0, .int .u8 0, .int .u8 0, .int .u8 0, .int .u8 0, .int .u8 0, .int .u8 0, .int .u8 0, .int .u8 0, .int .u8 0, .int .u8 0, .int .u8 0, .int .u8 0, .int .u8 0, .int .u8 0] := o35
  replace hb19 := hb19.keep k60 (fun hm => sb_b4_o34 _ hm rfl)
  replace hB := hB.new k60 (fun x hx => .inl (go_v2 x hx))
  clear z_k60 z157
  refine ow_nil (tw_keep [(5, _), (6, _), (74, _), (75, _)] ⟨rfl, rfl, rfl, rfl, trivial⟩ ?_)
  refine tw_b (tw_region (ow_g (g_fold (j := 1) (g_addw rfl rfl) (by decide)) rfl ?_))
  refine ow_g (g_mv rfl) rfl (ow_nil (tw_lp (tw_seq (tw_region (ow_g (g_lt rfl rfl) rfl ?_)))))
  refine ow_nil (tw_seq (tw_ifT rfl (by decide) ?_))
  refine tw_skip (tw_seq (tw_block (tw_seq (tw_region (ow_g (g_mv rfl) rfl (ow_g (g_as rfl) rfl ?_))))))
  refine ow_nil (tw_region (ow_g (g_mv rfl) rfl (ow_g (g_mv rfl) rfl (ow_g (g_mv rfl) rfl (ow_g (g_fold (j := 0) (g_quo rfl rfl (by decide)) (by decide)) rfl ?_)))))
  refine ow_g (g_ixa Try.underlying104 ty24 rfl rfl (by decide)) rfl ?_
  refine ow_g (g_ldb sc24 rfl hb19 rfl) rfl ?_
  refine ow_g (g_mv rfl) rfl (ow_g (g_fold (j := 1) (g_rem rfl rfl (by decide)) (by decide)) rfl ?_)
  refine ow_g (g_fold (j := 8) (g_mulw rfl rfl) (by decide)) rfl ?_
  refine ow_gx (e' := z142 / 256) (lo := 0) (hi := 72057594037927935) (g_shrp (m := 256) rfl rfl (by decide) rfl) (rfl) (In.wk (in_div r103 (by decide)) rfl) rfl (fun z158 h104 r115 => ?_)
  refine ow_gx (e' := z158 % 256) (lo := 0) (hi := 255) (g_cv (by rw [Try.underlying24]; rfl) Try.underlying5 rfl) (wrap_uns rfl _) (In.wk (in_mod _ (by decide)) rfl) rfl (fun z159 h105 r116 => ?_)
  refine ow_g (g_ix Try.underlying22 ty5 rfl (by first | assumption | exact Own.rd ‹_› | exact Rd.keep0 ‹_› hB | exact Own.rd (Own.keep0 ‹_› hB)) rfl (by omega)) rfl ?_
  refine ow_d0 (d_sto (u := .int .u8 z159) ty5 rfl rfl rfl o35 (blt_lt rfl)) ?_
  rintro _ w61 ⟨o36, k61, z160⟩
  have z_k61 := k61.size
  replace o36 : Own w61 _ 5 1 v2 32 [.int .u8 z156, .int .u8 z159, .int .u8 0, .int .u8 0, .int .u8 0, .int .u8 0, .int .u8 0, .int .u8 0, .int .u8 0, .int .u8 0, .int .u8 0, .int .u8 0, .int .u8 0, .int .u8 0, .int .u8 0, .int .u8 0, .int .u8 0, .int .u8 0, .int .u8 0, .int .u8 0, .int .u8 0, .int .u8 0, .int .u8 0, .int .u8 0, .int .u8 0, .int .u8 0, .int .u8 0, .int .u8 0, .int .u8 0, .int .u8 0, .int .u8 0, .int .u8 0] := o36
  replace hb19 := hb19.keep k61 (fun hm => sb_b4_o34 _ hm rfl)
  replace hB := hB.new k61 (fun x hx => .inl (go_v2 x hx))
  clear z_k61 z160
  refine ow_nil (tw_keep [(5, _), (6, _), (74, _), (75, _)] ⟨rfl, rfl, rfl, rfl, trivial⟩ ?_)
  refine tw_b (tw_region (ow_g (g_fold (j := 2) (g_addw rfl rfl) (by decide)) rfl ?_))
  refine ow_g (g_mv rfl) rfl (ow_nil (tw_lp (tw_seq (tw_region (ow_g (g_lt rfl rfl) rfl ?_)))))
  refine ow_nil (tw_seq (tw_ifT rfl (by decide) ?_))
  refine tw_skip (tw_seq (tw_block (tw_seq (tw_region (ow_g (g_mv rfl) rfl (ow_g (g_as rfl) rfl ?_))))))
  refine ow_nil (tw_region (ow_g (g_mv rfl) rfl (ow_g (g_mv rfl) rfl (ow_g (g_mv rfl) rfl (ow_g (g_fold (j := 0) (g_quo rfl rfl (by decide)) (by decide)) rfl ?_)))))
  refine ow_g (g_ixa Try.underlying104 ty24 rfl rfl (by decide)) rfl ?_
  refine ow_g (g_ldb sc24 rfl hb19 rfl) rfl ?_
  refine ow_g (g_mv rfl) rfl (ow_g (g_fold (j := 2) (g_rem rfl rfl (by decide)) (by decide)) rfl ?_)
  refine ow_g (g_fold (j := 16) (g_mulw rfl rfl) (by decide)) rfl ?_
  refine ow_gx (e' := z142 / 65536) (lo := 0) (hi := 281474976710655) (g_shrp (m := 65536) rfl rfl (by decide) rfl) (rfl) (In.wk (in_div r103 (by decide)) rfl) rfl (fun z161 h106 r117 => ?_)
  refine ow_gx (e' := z161 % 256) (lo := 0) (hi := 255) (g_cv (by rw [Try.underlying24]; rfl) Try.underlying5 rfl) (wrap_uns rfl _) (In.wk (in_mod _ (by decide)) rfl) rfl (fun z162 h107 r118 => ?_)
  refine ow_g (g_ix Try.underlying22 ty5 rfl (by first | assumption | exact Own.rd ‹_› | exact Rd.keep0 ‹_› hB | exact Own.rd (Own.keep0 ‹_› hB)) rfl (by omega)) rfl ?_
  refine ow_d0 (d_sto (u := .int .u8 z162) ty5 rfl rfl rfl o36 (blt_lt rfl)) ?_
  rintro _ w62 ⟨o37, k62, z163⟩
  have z_k62 := k62.size
  replace o37 : Own w62 _ 5 1 v2 32 [.int .u8 z156, .int .u8 z159, .int .u8 z162, .int .u8 0, .int .u8 0, .int .u8 0, .int .u8 0, .int .u8 0, .int .u8 0, .int .u8 0, .int .u8 0, .int .u8 0, .int .u8 0, .int .u8 0, .int .u8 0, .int .u8 0, .int .u8 0, .int .u8 0, .int .u8 0, .int .u8 0, .int .u8 0, .int .u8 0, .int .u8 0, .int .u8 0, .int .u8 0, .int .u8 0, .int .u8 0, .int .u8 0, .int .u8 0, .int .u8 0, .int .u8 0, .int .u8 0] := o37
  replace hb19 := hb19.keep k62 (fun hm => sb_b4_o34 _ hm rfl)
  replace hB := hB.new k62 (fun x hx => .inl (go_v2 x hx))
  clear z_k62 z163
  refine ow_nil (tw_keep [(5, _), (6, _), (74, _), (75, _)] ⟨rfl, rfl, rfl, rfl, trivial⟩ ?_)
  refine tw_b (tw_region (ow_g (g_fold (j := 3) (g_addw rfl rfl) (by decide)) rfl ?_))
  refine ow_g (g_mv rfl) rfl (ow_nil (tw_lp (tw_seq (tw_region (ow_g (g_lt rfl rfl) rfl ?_)))))
  refine ow_nil (tw_seq (tw_ifT rfl (by decide) ?_))
  refine tw_skip (tw_seq (tw_block (tw_seq (tw_region (ow_g (g_mv rfl) rfl (ow_g (g_as rfl) rfl ?_))))))
  refine ow_nil (tw_region (ow_g (g_mv rfl) rfl (ow_g (g_mv rfl) rfl (ow_g (g_mv rfl) rfl (ow_g (g_fold (j := 0) (g_quo rfl rfl (by decide)) (by decide)) rfl ?_)))))
  refine ow_g (g_ixa Try.underlying104 ty24 rfl rfl (by decide)) rfl ?_
  refine ow_g (g_ldb sc24 rfl hb19 rfl) rfl ?_
  refine ow_g (g_mv rfl) rfl (ow_g (g_fold (j := 3) (g_rem rfl rfl (by decide)) (by decide)) rfl ?_)
  refine ow_g (g_fold (j := 24) (g_mulw rfl rfl) (by decide)) rfl ?_
  refine ow_gx (e' := z142 / 16777216) (lo := 0) (hi := 1099511627775) (g_shrp (m := 16777216) rfl rfl (by decide) rfl) (rfl) (In.wk (in_div r103 (by decide)) rfl) rfl (fun z164 h108 r119 => ?_)
  refine ow_gx (e' := z164 % 256) (lo := 0) (hi := 255) (g_cv (by rw [Try.underlying24]; rfl) Try.underlying5 rfl) (wrap_uns rfl _) (In.wk (in_mod _ (by decide)) rfl) rfl (fun z165 h109 r120 => ?_)
  refine ow_g (g_ix Try.underlying22 ty5 rfl (by first | assumption | exact Own.rd ‹_› | exact Rd.keep0 ‹_› hB | exact Own.rd (Own.keep0 ‹_› hB)) rfl (by omega)) rfl ?_
  refine ow_d0 (d_sto (u := .int .u8 z165) ty5 rfl rfl rfl o37 (blt_lt rfl)) ?_
  rintro _ w63 ⟨o38, k63, z166⟩
  have z_k63 := k63.size
  replace o38 : Own w63 _ 5 1 v2 32 [.int .u8 z156, .int .u8 z159, .int .u8 z162, .int .u8 z165, .int .u8 0, .int .u8 0, .int .u8 0, .int .u8 0, .int .u8 0, .int .u8 0, .int .u8 0, .int .u8 0, .int .u8 0, .int .u8 0, .int .u8 0, .int .u8 0, .int .u8 0, .int .u8 0, .int .u8 0, .int .u8 0, .int .u8 0, .int .u8 0, .int .u8 0, .int .u8 0, .int .u8 0, .int .u8 0, .int .u8 0, .int .u8 0, .int .u8 0, .int .u8 0, .int .u8 0, .int .u8 0] := o38
  replace hb19 := hb19.keep k63 (fun hm => sb_b4_o34 _ hm rfl)
  replace hB := hB.new k63 (fun x hx => .inl (go_v2 x hx))
  clear z_k63 z166
  refine ow_nil (tw_keep [(5, _), (6, _), (74, _), (75, _)] ⟨rfl, rfl, rfl, rfl, trivial⟩ ?_)
  refine tw_b (tw_region (ow_g (g_fold (j := 4) (g_addw rfl rfl) (by decide)) rfl ?_))
  refine ow_g (g_mv rfl) rfl (ow_nil (tw_lp (tw_seq (tw_region (ow_g (g_lt rfl rfl) rfl ?_)))))
  refine ow_nil (tw_seq (tw_ifT rfl (by decide) ?_))
  refine tw_skip (tw_seq (tw_block (tw_seq (tw_region (ow_g (g_mv rfl) rfl (ow_g (g_as rfl) rfl ?_))))))
  refine ow_nil (tw_region (ow_g (g_mv rfl) rfl (ow_g (g_mv rfl) rfl (ow_g (g_mv rfl) rfl (ow_g (g_fold (j := 0) (g_quo rfl rfl (by decide)) (by decide)) rfl ?_)))))
  refine ow_g (g_ixa Try.underlying104 ty24 rfl rfl (by decide)) rfl ?_
  refine ow_g (g_ldb sc24 rfl hb19 rfl) rfl ?_
  refine ow_g (g_mv rfl) rfl (ow_g (g_fold (j := 4) (g_rem rfl rfl (by decide)) (by decide)) rfl ?_)
  refine ow_g (g_fold (j := 32) (g_mulw rfl rfl) (by decide)) rfl ?_
  refine ow_gx (e' := z142 / 4294967296) (lo := 0) (hi := 4294967295) (g_shrp (m := 4294967296) rfl rfl (by decide) rfl) (rfl) (In.wk (in_div r103 (by decide)) rfl) rfl (fun z167 h110 r121 => ?_)
  refine ow_gx (e' := z167 % 256) (lo := 0) (hi := 255) (g_cv (by rw [Try.underlying24]; rfl) Try.underlying5 rfl) (wrap_uns rfl _) (In.wk (in_mod _ (by decide)) rfl) rfl (fun z168 h111 r122 => ?_)
  refine ow_g (g_ix Try.underlying22 ty5 rfl (by first | assumption | exact Own.rd ‹_› | exact Rd.keep0 ‹_› hB | exact Own.rd (Own.keep0 ‹_› hB)) rfl (by omega)) rfl ?_
  refine ow_d0 (d_sto (u := .int .u8 z168) ty5 rfl rfl rfl o38 (blt_lt rfl)) ?_
  rintro _ w64 ⟨o39, k64, z169⟩
  have z_k64 := k64.size
  replace o39 : Own w64 _ 5 1 v2 32 [.int .u8 z156, .int .u8 z159, .int .u8 z162, .int .u8 z165, .int .u8 z168, .int .u8 0, .int .u8 0, .int .u8 0, .int .u8 0, .int .u8 0, .int .u8 0, .int .u8 0, .int .u8 0, .int .u8 0, .int .u8 0, .int .u8 0, .int .u8 0, .int .u8 0, .int .u8 0, .int .u8 0, .int .u8 0, .int .u8 0, .int .u8 0, .int .u8 0, .int .u8 0, .int .u8 0, .int .u8 0, .int .u8 0, .int .u8 0, .int .u8 0, .int .u8 0, .int .u8 0] := o39
  replace hb19 := hb19.keep k64 (fun hm => sb_b4_o34 _ hm rfl)
  replace hB := hB.new k64 (fun x hx => .inl (go_v2 x hx))
  clear z_k64 z169
  refine ow_nil (tw_keep [(5, _), (6, _), (74, _), (75, _)] ⟨rfl, rfl, rfl, rfl, trivial⟩ ?_)
  refine tw_b (tw_region (ow_g (g_fold (j := 5) (g_addw rfl rfl) (by decide)) rfl ?_))
  refine ow_g (g_mv rfl) rfl (ow_nil (tw_lp (tw_seq (tw_region (ow_g (g_lt rfl rfl) rfl ?_)))))
  refine ow_nil (tw_seq (tw_ifT rfl (by decide) ?_))
  refine tw_skip (tw_seq (tw_block (tw_seq (tw_region (ow_g (g_mv rfl) rfl (ow_g (g_as rfl) rfl ?_))))))
  refine ow_nil (tw_region (ow_g (g_mv rfl) rfl (ow_g (g_mv rfl) rfl (ow_g (g_mv rfl) rfl (ow_g (g_fold (j := 0) (g_quo rfl rfl (by decide)) (by decide)) rfl ?_)))))
  refine ow_g (g_ixa Try.underlying104 ty24 rfl rfl (by decide)) rfl ?_
  refine ow_g (g_ldb sc24 rfl hb19 rfl) rfl ?_
  refine ow_g (g_mv rfl) rfl (ow_g (g_fold (j := 5) (g_rem rfl rfl (by decide)) (by decide)) rfl ?_)
  refine ow_g (g_fold (j := 40) (g_mulw rfl rfl) (by decide)) rfl ?_
  refine ow_gx (e' := z142 / 1099511627776) (lo := 0) (hi := 16777215) (g_shrp (m := 1099511627776) rfl rfl (by decide) rfl) (rfl) (In.wk (in_div r103 (by decide)) rfl) rfl (fun z170 h112 r123 => ?_)
  refine ow_gx (e' := z170 % 256) (lo := 0) (hi := 255) (g_cv (by rw [Try.underlying24]; rfl) Try.underlying5 rfl) (wrap_uns rfl _) (In.wk (in_mod _ (by decide)) rfl) rfl (fun z171 h113 r124 => ?_)
  refine ow_g (g_ix Try.underlying22 ty5 rfl (by first | assumption | exact Own.rd ‹_› | exact Rd.keep0 ‹_› hB | exact Own.rd (Own.keep0 ‹_› hB)) rfl (by omega)) rfl ?_
  refine ow_d0 (d_sto (u := .int .u8 z171) ty5 rfl rfl rfl o39 (blt_lt rfl)) ?_
  rintro _ w65 ⟨o40, k65, z172⟩
  have z_k65 := k65.size
  replace o40 : Own w65 _ 5 1 v2 32 [.int .u8 z156, .int .u8 z159, .int .u8 z162, .int .u8 z165, .int .u8 z168, .int .u8 z171, .int .u8 0, .int .u8 0, .int .u8 0, .int .u8 0, .int .u8 0, .int .u8 0, .int .u8 0, .int .u8 0, .int .u8 0, .int .u8 0, .int .u8 0, .int .u8 0, .int .u8 0, .int .u8 0, .int .u8 0, .int .u8 0, .int .u8 0, .int .u8 0, .int .u8 0, .int .u8 0, .int .u8 0, .int .u8 0, .int .u8 0, .int .u8 0, .int .u8 0, .int .u8 0] := o40
  replace hb19 := hb19.keep k65 (fun hm => sb_b4_o34 _ hm rfl)
  replace hB := hB.new k65 (fun x hx => .inl (go_v2 x hx))
  clear z_k65 z172
  refine ow_nil (tw_keep [(5, _), (6, _), (74, _), (75, _)] ⟨rfl, rfl, rfl, rfl, trivial⟩ ?_)
  refine tw_b (tw_region (ow_g (g_fold (j := 6) (g_addw rfl rfl) (by decide)) rfl ?_))
  refine ow_g (g_mv rfl) rfl (ow_nil (tw_lp (tw_seq (tw_region (ow_g (g_lt rfl rfl) rfl ?_)))))
  refine ow_nil (tw_seq (tw_ifT rfl (by decide) ?_))
  refine tw_skip (tw_seq (tw_block (tw_seq (tw_region (ow_g (g_mv rfl) rfl (ow_g (g_as rfl) rfl ?_))))))
  refine ow_nil (tw_region (ow_g (g_mv rfl) rfl (ow_g (g_mv rfl) rfl (ow_g (g_mv rfl) rfl (ow_g (g_fold (j := 0) (g_quo rfl rfl (by decide)) (by decide)) rfl ?_)))))
  refine ow_g (g_ixa Try.underlying104 ty24 rfl rfl (by decide)) rfl ?_
  refine ow_g (g_ldb sc24 rfl hb19 rfl) rfl ?_
  refine ow_g (g_mv rfl) rfl (ow_g (g_fold (j := 6) (g_rem rfl rfl (by decide)) (by decide)) rfl ?_)
  refine ow_g (g_fold (j := 48) (g_mulw rfl rfl) (by decide)) rfl ?_
  refine ow_gx (e' := z142 / 281474976710656) (lo := 0) (hi := 65535) (g_shrp (m := 281474976710656) rfl rfl (by decide) rfl) (rfl) (In.wk (in_div r103 (by decide)) rfl) rfl (fun z173 h114 r125 => ?_)
  refine ow_gx (e' := z173 % 256) (lo := 0) (hi := 255) (g_cv (by rw [Try.underlying24]; rfl) Try.underlying5 rfl) (wrap_uns rfl _) (In.wk (in_mod _ (by decide)) rfl) rfl (fun z174 h115 r126 => ?_)
  refine ow_g (g_ix Try.underlying22 ty5 rfl (by first | assumption | exact Own.rd ‹_› | exact Rd.keep0 ‹_› hB | exact Own.rd (Own.keep0 ‹_› hB)) rfl (by omega)) rfl ?_
  refine ow_d0 (d_sto (u := .int .u8 z174) ty5 rfl rfl rfl o40 (blt_lt rfl)) ?_
  rintro _ w66 ⟨o41, k66, z175⟩
  have z_k66 := k66.size
  replace o41 : Own w66 _ 5 1 v2 32 [.int .u8 z156, .int .u8 z159, .int .u8 z162, .int .u8 z165, .int .u8 z168, .int .u8 z171, .int .u8 z174, .int .u8 0, .int .u8 0, .int .u8 0, .int .u8 0, .int .u8 0, .int .u8 0, .int .u8 0, .int .u8 0, .int .u8 0, .int .u8 0, .int .u8 0, .int .u8 0, .int .u8 0, .int .u8 0, .int .u8 0, .int .u8 0, .int .u8 0, .int .u8 0, .int .u8 0, .int .u8 0, .int .u8 0, .int .u8 0, .int .u8 0, .int .u8 0, .int .u8 0] := o41
  replace hb19 := hb19.keep k66 (fun hm => sb_b4_o34 _ hm rfl)
  replace hB := hB.new k66 (fun x hx => .inl (go_v2 x hx))
  clear z_k66 z175
  refine ow_nil (tw_keep [(5, _), (6, _), (74, _), (75, _)] ⟨rfl, rfl, rfl, rfl, trivial⟩ ?_)
  refine tw_b (tw_region (ow_g (g_fold (j := 7) (g_addw rfl rfl) (by decide)) rfl ?_))
  refine ow_g (g_mv rfl) rfl (ow_nil (tw_lp (tw_seq (tw_region (ow_g (g_lt rfl rfl) rfl ?_)))))
  refine ow_nil (tw_seq (tw_ifT rfl (by decide) ?_))
  refine tw_skip (tw_seq (tw_block (tw_seq (tw_region (ow_g (g_mv rfl) rfl (ow_g (g_as rfl) rfl ?_))))))
  refine ow_nil (tw_region (ow_g (g_mv rfl) rfl (ow_g (g_mv rfl) rfl (ow_g (g_mv rfl) rfl (ow_g (g_fold (j := 0) (g_quo rfl rfl (by decide)) (by decide)) rfl ?_)))))
  refine ow_g (g_ixa Try.underlying104 ty24 rfl rfl (by decide)) rfl ?_
  refine ow_g (g_ldb sc24 rfl hb19 rfl) rfl ?_
  refine ow_g (g_mv rfl) rfl (ow_g (g_fold (j := 7) (g_rem rfl rfl (by decide)) (by decide)) rfl ?_)
  refine ow_g (g_fold (j := 56) (g_mulw rfl rfl) (by decide)) rfl ?_
  refine ow_gx (e' := z142 / 72057594037927936) (lo := 0) (hi := 255) (g_shrp (m := 72057594037927936) rfl rfl (by decide) rfl) (rfl) (In.wk (in_div r103 (by decide)) rfl) rfl (fun z176 h116 r127 => ?_)
  refine ow_gx (e' := z176) (lo := 0) (hi := 255) (g_cv (by rw [Try.underlying24]; rfl) Try.underlying5 rfl) (wrap_fit r127 rfl) (r127) rfl (fun z177 h117 r128 => ?_)
  refine ow_g (g_ix Try.underlying22 ty5 rfl (by first | assumption | exact Own.rd ‹_› | exact Rd.keep0 ‹_› hB | exact Own.rd (Own.keep0 ‹_› hB)) rfl (by omega)) rfl ?_
  refine ow_d0 (d_sto (u := .int .u8 z177) ty5 rfl rfl rfl o41 (blt_lt rfl)) ?_
  rintro _ w67 ⟨o42, k67, z178⟩
  have z_k67 := k67.size
  replace o42 : Own w67 _ 5 1 v2 32 [.int .u8 z156, .int .u8 z159, .int .u8 z162, .int .u8 z165, .int .u8 z168, .int .u8 z171, .int .u8 z174, .int .u8 z177, .int .u8 0, .int .u8 0, .int .u8 0, .int .u8 0, .int .u8 0, .int .u8 0, .int .u8 0, .int .u8 0, .int .u8 0, .int .u8 0, .int .u8 0, .int .u8 0, .int .u8 0, .int .u8 0, .int .u8 0, .int .u8 0, .int .u8 0, .int .u8 0, .int .u8 0, .int .u8 0, .int .u8 0, .int .u8 0, .int .u8 0, .int .u8 0] := o42
  replace hb19 := hb19.keep k67 (fun hm => sb_b4_o34 _ hm rfl)
  replace hB := hB.new k67 (fun x hx => .inl (go_v2 x hx))
  clear z_k67 z178
  refine ow_nil (tw_keep [(5, _), (6, _), (74, _), (75, _)] ⟨rfl, rfl, rfl, rfl, trivial⟩ ?_)
  refine tw_b (tw_region (ow_g (g_fold (j := 8) (g_addw rfl rfl) (by decide)) rfl ?_))
  refine ow_g (g_mv rfl) rfl (ow_nil (tw_lp (tw_seq (tw_region (ow_g (g_lt rfl rfl) rfl ?_)))))
  refine ow_nil (tw_seq (tw_ifT rfl (by decide) ?_))
  refine tw_skip (tw_seq (tw_block (tw_seq (tw_region (ow_g (g_mv rfl) rfl (ow_g (g_as rfl) rfl ?_))))))
  refine ow_nil (tw_region (ow_g (g_mv rfl) rfl (ow_g (g_mv rfl) rfl (ow_g (g_mv rfl) rfl (ow_g (g_fold (j := 1) (g_quo rfl rfl (by decide)) (by decide)) rfl ?_)))))
  refine ow_g (g_ixa Try.underlying104 ty24 rfl rfl (by decide)) rfl ?_
  refine ow_g (g_ldb sc24 rfl hb19 rfl) rfl ?_
  refine ow_g (g_mv rfl) rfl (ow_g (g_fold (j := 0) (g_rem rfl rfl (by decide)) (by decide)) rfl ?_)
  refine ow_g (g_fold (j := 0) (g_mulw rfl rfl) (by decide)) rfl ?_
  refine ow_gx (e' := z145 / 1) (lo := 0) (hi := 18446744073709551615) (g_shrp (m := 1) rfl rfl (by decide) rfl) (rfl) (In.wk (in_div r106 (by decide)) rfl) rfl (fun z179 h118 r129 => ?_)
  refine ow_gx (e' := z179 % 256) (lo := 0) (hi := 255) (g_cv (by rw [Try.underlying24]; rfl) Try.underlying5 rfl) (wrap_uns rfl _) (In.wk (in_mod _ (by decide)) rfl) rfl (fun z180 h119 r130 => ?_)
  refine ow_g (g_ix Try.underlying22 ty5 rfl (by first | assumption | exact Own.rd ‹_› | exact Rd.keep0 ‹_› hB | exact Own.rd (Own.keep0 ‹_› hB)) rfl (by omega)) rfl ?_
  refine ow_d0 (d_sto (u := .int .u8 z180) ty5 rfl rfl rfl o42 (blt_lt rfl)) ?_
  rintro _ w68 ⟨o43, k68, z181⟩
  have z_k68 := k68.size
  replace o43 : Own w68 _ 5 1 v2 32 [.int .u8 z156, .int .u8 z159, .int .u8 z162, .int .u8 z165, .int .u8 z168, .int .u8 z171, .int .u8 z174, .int .u8 z177, .int .u8 z180, .int .u8 0, .int .u8 0, .int .u8 0, .int .u8 0, .int .u8 0, .int .u8 0, .int .u8 0, .int .u8 0, .int .u8 0, .int .u8 0, .int .u8 0, .int .u8 0, .int .u8 0, .int .u8 0, .int .u8 0, .int .u8 0, .int .u8 0, .int .u8 0, .int .u8 0, .int .u8 0, .int .u8 0, .int .u8 0, .int .u8 0] := o43
  replace hb19 := hb19.keep k68 (fun hm => sb_b4_o34 _ hm rfl)
  replace hB := hB.new k68 (fun x hx => .inl (go_v2 x hx))
  clear z_k68 z181
  refine ow_nil (tw_keep [(5, _), (6, _), (74, _), (75, _)] ⟨rfl, rfl, rfl, rfl, trivial⟩ ?_)
  refine tw_b (tw_region (ow_g (g_fold (j := 9) (g_addw rfl rfl) (by decide)) rfl ?_))
  refine ow_g (g_mv rfl) rfl (ow_nil (tw_lp (tw_seq (tw_region (ow_g (g_lt rfl rfl) rfl ?_)))))
  refine ow_nil (tw_seq (tw_ifT rfl (by decide) ?_))
  refine tw_skip (tw_seq (tw_block (tw_seq (tw_region (ow_g (g_mv rfl) rfl (ow_g (g_as rfl) rfl ?_))))))
  refine ow_nil (tw_region (ow_g (g_mv rfl) rfl (ow_g (g_mv rfl) rfl (ow_g (g_mv rfl) rfl (ow_g (g_fold (j := 1) (g_quo rfl rfl (by decide)) (by decide)) rfl ?_)))))
  refine ow_g (g_ixa Try.underlying104 ty24 rfl rfl (by decide)) rfl ?_
  refine ow_g (g_ldb sc24 rfl hb19 rfl) rfl ?_
  refine ow_g (g_mv rfl) rfl (ow_g (g_fold (j := 1) (g_rem rfl rfl (by decide)) (by decide)) rfl ?_)
  refine ow_g (g_fold (j := 8) (g_mulw rfl rfl) (by decide)) rfl ?_
  refine ow_gx (e' := z145 / 256) (lo := 0) (hi := 72057594037927935) (g_shrp (m := 256) rfl rfl (by decide) rfl) (rfl) (In.wk (in_div r106 (by decide)) rfl) rfl (fun z182 h120 r131 => ?_)
  refine ow_gx (e' := z182 % 256) (lo := 0) (hi := 255) (g_cv (by rw [Try.underlying24]; rfl) Try.underlying5 rfl) (wrap_uns rfl _) (In.wk (in_mod _ (by decide)) rfl) rfl (fun z183 h121 r132 => ?_)
  refine ow_g (g_ix Try.underlying22 ty5 rfl (by first | assumption | exact Own.rd ‹_› | exact Rd.keep0 ‹_› hB | exact Own.rd (Own.keep0 ‹_› hB)) rfl (by omega)) rfl ?_
  refine ow_d0 (d_sto (u := .int .u8 z183) ty5 rfl rfl rfl o43 (blt_lt rfl)) ?_
  rintro _ w69 ⟨o44, k69, z184⟩
  have z_k69 := k69.size
  replace o44 : Own w69 _ 5 1 v2 32 [.int .u8 z156, .int .u8 z159, .int .u8 z162, .int .u8 z165, .int .u8 z168, .int .u8 z171, .int .u8 z174, .int .u8 z177, .int .u8 z180, .int .u8 z183, .int .u8 0, .int .u8 0, .int .u8 0, .int .u8 0, .int .u8 0, .int .u8 0, .int .u8 0, .int .u8 0, .int .u8 0, .int .u8 0, .int .u8 0, .int .u8 0, .int .u8 0, .int .u8 0, .int .u8 0, .int .u8 0, .int .u8 0, .int .u8 0, .int .u8 0, .int .u8 0, .int .u8 0, .int .u8 0] := o44
  replace hb19 := hb19.keep k69 (fun hm => sb_b4_o34 _ hm rfl)
  replace hB := hB.new k69 (fun x hx => .inl (go_v2 x hx))
  clear z_k69 z184
  refine ow_nil (tw_keep [(5, _), (6, _), (74, _), (75, _)] ⟨rfl, rfl, rfl, rfl, trivial⟩ ?_)
  refine tw_b (tw_region (ow_g (g_fold (j := 10) (g_addw rfl rfl) (by decide)) rfl ?_))
  refine ow_g (g_mv rfl) rfl (ow_nil (tw_lp (tw_seq (tw_region (ow_g (g_lt rfl rfl) rfl ?_)))))
  refine ow_nil (tw_seq (tw_ifT rfl (by decide) ?_))
  refine tw_skip (tw_seq (tw_block (tw_seq (tw_region (ow_g (g_mv rfl) rfl (ow_g (g_as rfl) rfl ?_))))))
  refine ow_nil (tw_region (ow_g (g_mv rfl) rfl (ow_g (g_mv rfl) rfl (ow_g (g_mv rfl) rfl (ow_g (g_fold (j := 1) (g_quo rfl rfl (by decide)) (by decide)) rfl ?_)))))
  refine ow_g (g_ixa Try.underlying104 ty24 rfl rfl (by decide)) rfl ?_
  refine ow_g (g_ldb sc24 rfl hb19 rfl) rfl ?_
  refine ow_g (g_mv rfl) rfl (ow_g (g_fold (j := 2) (g_rem rfl rfl (by decide)) (by decide)) rfl ?_)
  refine ow_g (g_fold (j := 16) (g_mulw rfl rfl) (by decide)) rfl ?_
  refine ow_gx (e' := z145 / 65536) (lo := 0) (hi := 281474976710655) (g_shrp (m := 65536) rfl rfl (by decide) rfl) (rfl) (In.wk (in_div r106 (by decide)) rfl) rfl (fun z185 h122 r133 => ?_)
  refine ow_gx (e' := z185 % 256) (lo := 0) (hi := 255) (g_cv (by rw [Try.underlying24]; rfl) Try.underlying5 rfl) (wrap_uns rfl _) (In.wk (in_mod _ (by decide)) rfl) rfl (fun z186 h123 r134 => ?_)
  refine ow_g (g_ix Try.underlying22 ty5 rfl (by first | assumption | exact Own.rd ‹_› | exact Rd.keep0 ‹_› hB | exact Own.rd (Own.keep0 ‹_› hB)) rfl (by omega)) rfl ?_
  refine ow_d0 (d_sto (u := .int .u8 z186) ty5 rfl rfl rfl o44 (blt_lt rfl)) ?_
  rintro _ w70 ⟨o45, k70, z187⟩
  have z_k70 := k70.size
  replace o45 : Own w70 _ 5 1 v2 32 [.int .u8 z156, .int .u8 z159, .int .u8 z162, .int .u8 z165, .int .u8 z168, .int .u8 z171, .int .u8 z174, .int .u8 z177, .int .u8 z180, .int .u8 z183, .int .u8 z186, .int .u8 0, .int .u8 0, .int .u8 0, .int .u8 0, .int .u8 0, .int .u8 0, .int .u8 0, .int .u8 0, .int .u8 0, .int .u8 0, .int .u8 0, .int .u8 0, .int .u8 0, .int .u8 0, .int .u8 0, .int .u8 0, .int .u8 0, .int .u8 0, .int .u8 0, .int .u8 0, .int .u8 0] := o45
  replace hb19 := hb19.keep k70 (fun hm => sb_b4_o34 _ hm rfl)
  replace hB := hB.new k70 (fun x hx => .inl (go_v2 x hx))
  clear z_k70 z187
  refine ow_nil (tw_keep [(5, _), (6, _), (74, _), (75, _)] ⟨rfl, rfl, rfl, rfl, trivial⟩ ?_)
  refine tw_b (tw_region (ow_g (g_fold (j := 11) (g_addw rfl rfl) (by decide)) rfl ?_))
  refine ow_g (g_mv rfl) rfl (ow_nil (tw_lp (tw_seq (tw_region (ow_g (g_lt rfl rfl) rfl ?_)))))
  refine ow_nil (tw_seq (tw_ifT rfl (by decide) ?_))
  refine tw_skip (tw_seq (tw_block (tw_seq (tw_region (ow_g (g_mv rfl) rfl (ow_g (g_as rfl) rfl ?_))))))
  refine ow_nil (tw_region (ow_g (g_mv rfl) rfl (ow_g (g_mv rfl) rfl (ow_g (g_mv rfl) rfl (ow_g (g_fold (j := 1) (g_quo rfl rfl (by decide)) (by decide)) rfl ?_)))))
  refine ow_g (g_ixa Try.underlying104 ty24 rfl rfl (by decide)) rfl ?_
  refine ow_g (g_ldb sc24 rfl hb19 rfl) rfl ?_
  refine ow_g (g_mv rfl) rfl (ow_g (g_fold (j := 3) (g_rem rfl rfl (by decide)) (by decide)) rfl ?_)
  refine ow_g (g_fold (j := 24) (g_mulw rfl rfl) (by decide)) rfl ?_
  refine ow_gx (e' := z145 / 16777216) (lo := 0) (hi := 1099511627775) (g_shrp (m := 16777216) rfl rfl (by decide) rfl) (rfl) (In.wk (in_div r106 (by decide)) rfl) rfl (fun z188 h124 r135 => ?_)
  refine ow_gx (e' := z188 % 256) (lo := 0) (hi := 255) (g_cv (by rw [Try.underlying24]; rfl) Try.underlying5 rfl) (wrap_uns rfl _) (In.wk (in_mod _ (by decide)) rfl) rfl (fun z189 h125 r136 => ?_)
  refine ow_g (g_ix Try.underlying22 ty5 rfl (by first | assumption | exact Own.rd ‹_› | exact Rd.keep0 ‹_› hB | exact Own.rd (Own.keep0 ‹_› hB)) rfl (by omega)) rfl ?_
  refine ow_d0 (d_sto (u := .int .u8 z189) ty5 rfl rfl rfl o45 (blt_lt rfl)) ?_
  rintro _ w71 ⟨o46, k71, z190⟩
  have z_k71 := k71.size
  replace o46 : Own w71 _ 5 1 v2 32 [.int .u8 z156, .int .u8 z159, .int .u8 z162, .int .u8 z165, .int .u8 z168, .int .u8 z171, .int .u8 z174, .int .u8 z177, .int .u8 z180, .int .u8 z183, .int .u8 z186, .int .u8 z189, .int .u8 0, .int .u8 0, .int .u8 0, .int .u8 0, .int .u8 0, .int .u8 0, .int .u8 0, .int .u8 0, .int .u8 0, .int .u8 0, .int .u8 0, .int .u8 0, .int .u8 0, .int .u8 0, .int .u8 0, .int .u8 0, .int .u8 0, .int .u8 0, .int .u8 0, .int .u8 0] := o46
  replace hb19 := hb19.keep k71 (fun hm => sb_b4_o34 _ hm rfl)
  replace hB := hB.new k71 (fun x hx => .inl (go_v2 x hx))
  clear z_k71 z190
  refine ow_nil (tw_keep [(5, _), (6, _), (74, _), (75, _)] ⟨rfl, rfl, rfl, rfl, trivial⟩ ?_)
  refine tw_b (tw_region (ow_g (g_fold (j := 12) (g_addw rfl rfl) (by decide)) rfl ?_))
  refine ow_g (g_mv rfl) rfl (ow_nil (tw_lp (tw_seq (tw_region (ow_g (g_lt rfl rfl) rfl ?_)))))
  refine ow_nil (tw_seq (tw_ifT rfl (by decide) ?_))
  refine tw_skip (tw_seq (tw_block (tw_seq (tw_region (ow_g (g_mv rfl) rfl (ow_g (g_as rfl) rfl ?_))))))
  refine ow_nil (tw_region (ow_g (g_mv rfl) rfl (ow_g (g_mv rfl) rfl (ow_g (g_mv rfl) rfl (ow_g (g_fold (j := 1) (g_quo rfl rfl (by decide)) (by decide)) rfl ?_)))))
  refine ow_g (g_ixa Try.underlying104 ty24 rfl rfl (by decide)) rfl ?_
  refine ow_g (g_ldb sc24 rfl hb19 rfl) rfl ?_
  refine ow_g (g_mv rfl) rfl (ow_g (g_fold (j := 4) (g_rem rfl rfl (by decide)) (by decide)) rfl ?_)
  refine ow_g (g_fold (j := 32) (g_mulw rfl rfl) (by decide)) rfl ?_
  refine ow_gx (e' := z145 / 4294967296) (lo := 0) (hi := 4294967295) (g_shrp (m := 4294967296) rfl rfl (by decide) rfl) (rfl) (In.wk (in_div r106 (by decide)) rfl) rfl (fun z191 h126 r137 => ?_)
  refine ow_gx (e' := z191 % 256) (lo := 0) (hi := 255) (g_cv (by rw [Try.underlying24]; rfl) Try.underlying5 rfl) (wrap_uns rfl _) (In.wk (in_mod _ (by decide)) rfl) rfl (fun z192 h127 r138 => ?_)
  refine ow_g (g_ix Try.underlying22 ty5 rfl (by first | assumption | exact Own.rd ‹_› | exact Rd.keep0 ‹_› hB | exact Own.rd (Own.keep0 ‹_› hB)) rfl (by omega)) rfl ?_
  refine ow_d0 (d_sto (u := .int .u8 z192) ty5 rfl rfl rfl o46 (blt_lt rfl)) ?_
  rintro _ w72 ⟨o47, k72, z193⟩
  have z_k72 := k72.size
  replace o47 : Own w72 _ 5 1 v2 32 [.int .u8 z156, .int .u8 z159, .int .u8 z162, .int .u8 z165, .int .u8 z168, .int .u8 z171, .int .u8 z174, .int .u8 z177, .int .u8 z180, .int .u8 z183, .int .u8 z186, .int .u8 z189, .int .u8 z192, .int .u8 0, .int .u8 0, .int .u8 0, .int .u8 0, .int .u8 0, .int .u8 0, .int .u8 0, .int .u8 0, .int .u8 0, .int .u8 0, .int .u8 0, .int .u8 0, .int .u8 0, .int .u8 0, .int .u8 0, .int .u8 0, .int .u8 0, .int .u8 0, .int .u8 0] := o47
  replace hb19 := hb19.keep k72 (fun hm => sb_b4_o34 _ hm rfl)
  replace hB := hB.new k72 (fun x hx => .inl (go_v2 x hx))
  clear z_k72 z193
  refine ow_nil (tw_keep [(5, _), (6, _), (74, _), (75, _)] ⟨rfl, rfl, rfl, rfl, trivial⟩ ?_)
  refine tw_b (tw_region (ow_g (g_fold (j := 13) (g_addw rfl rfl) (by decide)) rfl ?_))
  refine ow_g (g_mv rfl) rfl (ow_nil (tw_lp (tw_seq (tw_region (ow_g (g_lt rfl rfl) rfl ?_)))))
  refine ow_nil (tw_seq (tw_ifT rfl (by decide) ?_))
  refine tw_skip (tw_seq (tw_block (tw_seq (tw_region (ow_g (g_mv rfl) rfl (ow_g (g_as rfl) rfl ?_))))))
  refine ow_nil (tw_region (ow_g (g_mv rfl) rfl (ow_g (g_mv rfl) rfl (ow_g (g_mv rfl) rfl (ow_g (g_fold (j := 1) (g_quo rfl rfl (by decide)) (by decide)) rfl ?_)))))
  refine ow_g (g_ixa Try.underlying104 ty24 rfl rfl (by decide)) rfl ?_
  refine ow_g (g_ldb sc24 rfl hb19 rfl) rfl ?_
  refine ow_g (g_mv rfl) rfl (ow_g (g_fold (j := 5) (g_rem rfl rfl (by decide)) (by decide)) rfl ?_)
  refine ow_g (g_fold (j := 40) (g_mulw rfl rfl) (by decide)) rfl ?_
  refine ow_gx (e' := z145 / 1099511627776) (lo := 0) (hi := 16777215) (g_shrp (m := 1099511627776) rfl rfl (by decide) rfl) (rfl) (In.wk (in_div r106 (by decide)) rfl) rfl (fun z194 h128 r139 => ?_)
  refine ow_gx (e' := z194 % 256) (lo := 0) (hi := 255) (g_cv (by rw [Try.underlying24]; rfl) Try.underlying5 rfl) (wrap_uns rfl _) (In.wk (in_mod _ (by decide)) rfl) rfl (fun z195 h129 r140 => ?_)
  refine ow_g (g_ix Try.underlying22 ty5 rfl (by first | assumption | exact Own.rd ‹_› | exact Rd.keep0 ‹_› hB | exact Own.rd (Own.keep0 ‹_› hB)) rfl (by omega)) rfl ?_
  refine ow_d0 (d_sto (u := .int .u8 z195) ty5 rfl rfl rfl o47 (blt_lt rfl)) ?_
  rintro _ w73 ⟨o48, k73, z196⟩
  have z_k73 := k73.size
  replace o48 : Own w73 _ 5 1 v2 32 [.int .u8 z156, .int .u8 z159, .int .u8 z162, .int .u8 z165, .int .u8 z168, .int .u8 z171, .int .u8 z174, .int .u8 z177, .int .u8 z180, .int .u8 z183, .int .u8 z186, .int .u8 z189, .int .u8 z192, .int .u8 z195, .int .u8 0, .int .u8 0, .int .u8 0, .int .u8 0, .int .u8 0, .int .u8 0, .int .u8 0, .int .u8 0, .int .u8 0, .int .u8 0, .int .u8 0, .int .u8 0, .int .u8 0, .int .u8 0, .int .u8 0, .int .u8 0, .int .u8 0, .int .u8 0] := o48
  replace hb19 := hb19.keep k73 (fun hm => sb_b4_o34 _ hm rfl)
  replace hB := hB.new k73 (fun x hx => .inl (go_v2 x hx))
  clear z_k73 z196
  refine ow_nil (tw_keep [(5, _), (6, _), (74, _), (75, _)] ⟨rfl, rfl, rfl, rfl, trivial⟩ ?_)
  refine tw_b (tw_region (ow_g (g_fold (j := 14) (g_addw rfl rfl) (by decide)) rfl ?_))
  refine ow_g (g_mv rfl) rfl (ow_nil (tw_lp (tw_seq (tw_region (ow_g (g_lt rfl rfl) rfl ?_)))))
  refine ow_nil (tw_seq (tw_ifT rfl (by decide) ?_))
  refine tw_skip (tw_seq (tw_block (tw_seq (tw_region (ow_g (g_mv rfl) rfl (ow_g (g_as rfl) rfl ?_))))))
  refine ow_nil (tw_region (ow_g (g_mv rfl) rfl (ow_g (g_mv rfl) rfl (ow_g (g_mv rfl) rfl (ow_g (g_fold (j := 1) (g_quo rfl rfl (by decide)) (by decide)) rfl ?_)))))
  refine ow_g (g_ixa Try.underlying104 ty24 rfl rfl (by decide)) rfl ?_
  refine ow_g (g_ldb sc24 rfl hb19 rfl) rfl ?_
  refine ow_g (g_mv rfl) rfl (ow_g (g_fold (j := 6) (g_rem rfl rfl (by decide)) (by decide)) rfl ?_)
  refine ow_g (g_fold (j := 48) (g_mulw rfl rfl) (by decide)) rfl ?_
  refine ow_gx (e' := z145 / 281474976710656) (lo := 0) (hi := 65535) (g_shrp (m := 281474976710656) rfl rfl (by decide) rfl) (rfl) (In.wk (in_div r106 (by decide)) rfl) rfl (fun z197 h130 r141 => ?_)
  refine ow_gx (e' := z197 % 256) (lo := 0) (hi := 255) (g_cv (by rw [Try.underlying24]; rfl) Try.underlying5 rfl) (wrap_uns rfl _) (In.wk (in_mod _ (by decide)) rfl) rfl (fun z198 h131 r142 => ?_)
  refine ow_g (g_ix Try.underlying22 ty5 rfl (by first | assumption | exact Own.rd ‹_› | exact Rd.keep0 ‹_› hB | exact Own.rd (Own.keep0 ‹_› hB)) rfl (by omega)) rfl ?_
  refine ow_d0 (d_sto (u := .int .u8 z198) ty5 rfl rfl rfl o48 (blt_lt rfl)) ?_
  rintro _ w74 ⟨o49, k74, z199⟩
  have z_k74 := k74.size
  replace o49 : Own w74 _ 5 1 v2 32 [.int .u8 z156, .int .u8 z159, .int .u8 z162, .int .u8 z165, .int .u8 z168, .int .u8 z171, .int .u8 z174, .int .u8 z177, .int .u8 z180, .int .u8 z183, .int .u8 z186, .int .u8 z189, .int .u8 z192, .int .u8 z195, .int .u8 z198, .int .u8 0, .int .u8 0, .int .u8 0, .int .u8 0, .int .u8 0, .int .u8 0, .int .u8 0, .int .u8 0, .int .u8 0, .int .u8 0, .int .u8 0, .int .u8 0, .int .u8 0, .int .u8 0, .int .u8 0, .int .u8 0, .int .u8 0] := o49
  replace hb19 := hb19.keep k74 (fun hm => sb_b4_o34 _ hm rfl)
  replace hB := hB.new k74 (fun x hx => .inl (go_v2 x hx))
  clear z_k74 z199
  refine ow_nil (tw_keep [(5, _), (6, _), (74, _), (75, _)] ⟨rfl, rfl, rfl, rfl, trivial⟩ ?_)
  refine tw_b (tw_region (ow_g (g_fold (j := 15) (g_addw rfl rfl) (by decide)) rfl ?_))
  refine ow_g (g_mv rfl) rfl (ow_nil (tw_lp (tw_seq (tw_region (ow_g (g_lt rfl rfl) rfl ?_)))))
  refine ow_nil (tw_seq (tw_ifT rfl (by decide) ?_))
  refine tw_skip (tw_seq (tw_block (tw_seq (tw_region (ow_g (g_mv rfl) rfl (ow_g (g_as rfl) rfl ?_))))))
  refine ow_nil (tw_region (ow_g (g_mv rfl) rfl (ow_g (g_mv rfl) rfl (ow_g (g_mv rfl) rfl (ow_g (g_fold (j := 1) (g_quo rfl rfl (by decide)) (by decide)) rfl ?_)))))
  refine ow_g (g_ixa Try.underlying104 ty24 rfl rfl (by decide)) rfl ?_
  refine ow_g (g_ldb sc24 rfl hb19 rfl) rfl ?_
  refine ow_g (g_mv rfl) rfl (ow_g (g_fold (j := 7) (g_rem rfl rfl (by decide)) (by decide)) rfl ?_)
  refine ow_g (g_fold (j := 56) (g_mulw rfl rfl) (by decide)) rfl ?_
  refine ow_gx (e' := z145 / 72057594037927936) (lo := 0) (hi := 255) (g_shrp (m := 72057594037927936) rfl rfl (by decide) rfl) (rfl) (In.wk (in_div r106 (by decide)) rfl) rfl (fun z200 h132 r143 => ?_)
  refine ow_gx (e' := z200) (lo := 0) (hi := 255) (g_cv (by rw [Try.underlying24]; rfl) Try.underlying5 rfl) (wrap_fit r143 rfl) (r143) rfl (fun z201 h133 r144 => ?_)
  refine ow_g (g_ix Try.underlying22 ty5 rfl (by first | assumption | exact Own.rd ‹_› | exact Rd.keep0 ‹_› hB | exact Own.rd (Own.keep0 ‹_› hB)) rfl (by omega)) rfl ?_
  refine ow_d0 (d_sto (u := .int .u8 z201) ty5 rfl rfl rfl o49 (blt_lt rfl)) ?_
  rintro _ w75 ⟨o50, k75, z202⟩
  have z_k75 := k75.size
  replace o50 : Own w75 _ 5 1 v2 32 [.int .u8 z156, .int .u8 z159, .int .u8 z162, .int .u8 z165, .int .u8 z168, .int .u8 z171, .int .u8 z174, .int .u8 z177, .int .u8 z180, .int .u8 z183, .int .u8 z186, .int .u8 z189, .int .u8 z192, .int .u8 z195, .int .u8 z198, .int .u8 z201, .int .u8 0, .int .u8 0, .int .u8 0, .int .u8 0, .int .u8 0, .int .u8 0, .int .u8 0, .int .u8 0, .int .u8 0, .int .u8 0, .int .u8 0, .int .u8 0, .int .u8 0, .int .u8 0, .int .u8 0, .int .u8 0] := o50
  replace hb19 := hb19.keep k75 (fun hm => sb_b4_o34 _ hm rfl)
  replace hB := hB.new k75 (fun x hx => .inl (go_v2 x hx))
  clear z_k75 z202
  refine ow_nil (tw_keep [(5, _), (6, _), (74, _), (75, _)] ⟨rfl, rfl, rfl, rfl, trivial⟩ ?_)
  refine tw_b (tw_region (ow_g (g_fold (j := 16) (g_addw rfl rfl) (by decide)) rfl ?_))
  refine ow_g (g_mv rfl) rfl (ow_nil (tw_lp (tw_seq (tw_region (ow_g (g_lt rfl rfl) rfl ?_)))))
  refine ow_nil (tw_seq (tw_ifT rfl (by decide) ?_))
  refine tw_skip (tw_seq (tw_block (tw_seq (tw_region (ow_g (g_mv rfl) rfl (ow_g (g_as rfl) rfl ?_))))))
  refine ow_nil (tw_region (ow_g (g_mv rfl) rfl (ow_g (g_mv rfl) rfl (ow_g (g_mv rfl) rfl (ow_g (g_fold (j := 2) (g_quo rfl rfl (by decide)) (by decide)) rfl ?_)))))
  refine ow_g (g_ixa Try.underlying104 ty24 rfl rfl (by decide)) rfl ?_
  refine ow_g (g_ldb sc24 rfl hb19 rfl) rfl ?_
  refine ow_g (g_mv rfl) rfl (ow_g (g_fold (j := 0) (g_rem rfl rfl (by decide)) (by decide)) rfl ?_)
  refine ow_g (g_fold (j := 0) (g_mulw rfl rfl) (by decide)) rfl ?_
  refine ow_gx (e' := z148 / 1) (lo := 0) (hi := 18446744073709551615) (g_shrp (m := 1) rfl rfl (by decide) rfl) (rfl) (In.wk (in_div r109 (by decide)) rfl) rfl (fun z203 h134 r145 => ?_)
  refine ow_gx (e' := z203 % 256) (lo := 0) (hi := 255) (g_cv (by rw [Try.underlying24]; rfl) Try.underlying5 rfl) (wrap_uns rfl _) (In.wk (in_mod _ (by decide)) rfl) rfl (fun z204 h135 r146 => ?_)
  refine ow_g (g_ix Try.underlying22 ty5 rfl (by first | assumption | exact Own.rd ‹_› | exact Rd.keep0 ‹_› hB | exact Own.rd (Own.keep0 ‹_› hB)) rfl (by omega)) rfl ?_
  refine ow_d0 (d_sto (u := .int .u8 z204) ty5 rfl rfl rfl o50 (blt_lt rfl)) ?_
  rintro _ w76 ⟨o51, k76, z205⟩
  have z_k76 := k76.size
  replace o51 : Own w76 _ 5 1 v2 32 [.int .u8 z156, .int .u8 z159, .int .u8 z162, .int .u8 z165, .int .u8 z168, .int .u8 z171, .int .u8 z174, .int .u8 z177, .int .u8 z180, .int .u8 z183, .int .u8 z186, .int .u8 z189, .int .u8 z192, .int .u8 z195, .int .u8 z198, .int .u8 z201, .int .u8 z204, .int .u8 0, .int .u8 0, .int .u8 0, .int .u8 0, .int .u8 0, .int .u8 0, .int .u8 0, .int .u8 0, .int .u8 0, .int .u8 0, .int .u8 0, .int .u8 0, .int .u8 0, .int .u8 0, .int .u8 0] := o51
  replace hb19 := hb19.keep k76 (fun hm => sb_b4_o34 _ hm rfl)
  replace hB := hB.new k76 (fun x hx => .inl (go_v2 x hx))
  clear z_k76 z205
  refine ow_nil (tw_keep [(5, _), (6, _), (74, _), (75, _)] ⟨rfl, rfl, rfl, rfl, trivial⟩ ?_)
  refine tw_b (tw_region (ow_g (g_fold (j := 17) (g_addw rfl rfl) (by decide)) rfl ?_))
  refine ow_g (g_mv rfl) rfl (ow_nil (tw_lp (tw_seq (tw_region (ow_g (g_lt rfl rfl) rfl ?_)))))
  refine ow_nil (tw_seq (tw_ifT rfl (by decide) ?_))
  refine tw_skip (tw_seq (tw_block (tw_seq (tw_region (ow_g (g_mv rfl) rfl (ow_g (g_as rfl) rfl ?_))))))
  refine ow_nil (tw_region (ow_g (g_mv rfl) rfl (ow_g (g_mv rfl) rfl (ow_g (g_mv rfl) rfl (ow_g (g_fold (j := 2) (g_quo rfl rfl (by decide)) (by decide)) rfl ?_)))))
  refine ow_g (g_ixa Try.underlying104 ty24 rfl rfl (by decide)) rfl ?_
  refine ow_g (g_ldb sc24 rfl hb19 rfl) rfl ?_
  refine ow_g (g_mv rfl) rfl (ow_g (g_fold (j := 1) (g_rem rfl rfl (by decide)) (by decide)) rfl ?_)
  refine ow_g (g_fold (j := 8) (g_mulw rfl rfl) (by decide)) rfl ?_
  refine ow_gx (e' := z148 / 256) (lo := 0) (hi := 72057594037927935) (g_shrp (m := 256) rfl rfl (by decide) rfl) (rfl) (In.wk (in_div r109 (by decide)) rfl) rfl (fun z206 h136 r147 => ?_)
  refine ow_gx (e' := z206 % 256) (lo := 0) (hi := 255) (g_cv (by rw [Try.underlying24]; rfl) Try.underlying5 rfl) (wrap_uns rfl _) (In.wk (in_mod _ (by decide)) rfl) rfl (fun z207 h137 r148 => ?_)
  refine ow_g (g_ix Try.underlying22 ty5 rfl (by first | assumption | exact Own.rd ‹_› | exact Rd.keep0 ‹_› hB | exact Own.rd (Own.keep0 ‹_› hB)) rfl (by omega)) rfl ?_
  refine ow_d0 (d_sto (u := .int .u8 z207) ty5 rfl rfl rfl o51 (blt_lt rfl)) ?_
  rintro _ w77 ⟨o52, k77, z208⟩
  have z_k77 := k77.size
  replace o52 : Own w77 _ 5 1 v2 32 [.int .u8 z156, .int .u8 z159, .int .u8 z162, .int .u8 z165, .int .u8 z168, .int .u8 z171, .int .u8 z174, .int .u8 z177, .int .u8 z180, .int .u8 z183, .int .u8 z186, .int .u8 z189, .int .u8 z192, .int .u8 z195, .int .u8 z198, .int .u8 z201, .int .u8 z204, .int .u8 z207, .int .u8 0, .int .u8 0, .int .u8 0, .int .u8 0, .int .u8 0, .int .u8 0, .int .u8 0, .int .u8 0, .int .u8 0, .int .u8 0, .int .u8 0, .int .u8 0, .int .u8 0, .int .u8 0] := o52
  replace hb19 := hb19.keep k77 (fun hm => sb_b4_o34 _ hm rfl)
  replace hB := hB.new k77 (fun x hx => .inl (go_v2 x hx))
  clear z_k77 z208
  refine ow_nil (tw_keep [(5, _), (6, _), (74, _), (75, _)] ⟨rfl, rfl, rfl, rfl, trivial⟩ ?_)
  refine tw_b (tw_region (ow_g (g_fold (j := 18) (g_addw rfl rfl) (by decide)) rfl ?_))
  refine ow_g (g_mv rfl) rfl (ow_nil (tw_lp (tw_seq (tw_region (ow_g (g_lt rfl rfl) rfl ?_)))))
  refine ow_nil (tw_seq (tw_ifT rfl (by decide) ?_))
  refine tw_skip (tw_seq (tw_block (tw_seq (tw_region (ow_g (g_mv rfl) rfl (ow_g (g_as rfl) rfl ?_))))))
  refine ow_nil (tw_region (ow_g (g_mv rfl) rfl (ow_g (g_mv rfl) rfl (ow_g (g_mv rfl) rfl (ow_g (g_fold (j := 2) (g_quo rfl rfl (by decide)) (by decide)) rfl ?_)))))
  refine ow_g (g_ixa Try.underlying104 ty24 rfl rfl (by decide)) rfl ?_
  refine ow_g (g_ldb sc24 rfl hb19 rfl) rfl ?_
  refine ow_g (g_mv rfl) rfl (ow_g (g_fold (j := 2) (g_rem rfl rfl (by decide)) (by decide)) rfl ?_)
  refine ow_g (g_fold (j := 16) (g_mulw rfl rfl) (by decide)) rfl ?_
  refine ow_gx (e' := z148 / 65536) (lo := 0) (hi := 281474976710655) (g_shrp (m := 65536) rfl rfl (by decide) rfl) (rfl) (In.wk (in_div r109 (by decide)) rfl) rfl (fun z209 h138 r149 => ?_)
  refine ow_gx (e' := z209 % 256) (lo := 0) (hi := 255) (g_cv (by rw [Try.underlying24]; rfl) Try.underlying5 rfl) (wrap_uns rfl _) (In.wk (in_mod _ (by decide)) rfl) rfl (fun z210 h139 r150 => ?_)
  refine ow_g (g_ix Try.underlying22 ty5 rfl (by first | assumption | exact Own.rd ‹_› | exact Rd.keep0 ‹_› hB | exact Own.rd (Own.keep0 ‹_› hB)) rfl (by omega)) rfl ?_
  refine ow_d0 (d_sto (u := .int .u8 z210) ty5 rfl rfl rfl o52 (blt_lt rfl)) ?_
  rintro _ w78 ⟨o53, k78, z211⟩
  have z_k78 := k78.size
  replace o53 : Own w78 _ 5 1 v2 32 [.int .u8 z156, .int .u8 z159, .int .u8 z162, .int .u8 z165, .int .u8 z168, .int .u8 z171, .int .u8 z174, .int .u8 z177, .int .u8 z180, .int .u8 z183, .int .u8 z186, .int .u8 z189, .int .u8 z192, .int .u8 z195, .int .u8 z198, .int .u8 z201, .int .u8 z204, .int .u8 z207, .int .u8 z210, .int .u8 0, .int .u8 0, .int .u8 0, .int .u8 0, .int .u8 0, .int .u8 0, .int .u8 0, .int .u8 0, .int .u8 0, .int .u8 0, .int .u8 0, .int .u8 0, .int .u8 0] := o53
  replace hb19 := hb19.keep k78 (fun hm => sb_b4_o34 _ hm rfl)
  replace hB := hB.new k78 (fun x hx => .inl (go_v2 x hx))
  clear z_k78 z211
  refine ow_nil (tw_keep [(5, _), (6, _), (74, _), (75, _)] ⟨rfl, rfl, rfl, rfl, trivial⟩ ?_)
  refine tw_b (tw_region (ow_g (g_fold (j := 19) (g_addw rfl rfl) (by decide)) rfl ?_))
  refine ow_g (g_mv rfl) rfl (ow_nil (tw_lp (tw_seq (tw_region (ow_g (g_lt rfl rfl) rfl ?_)))))
  refine ow_nil (tw_seq (tw_ifT rfl (by decide) ?_))
  refine tw_skip (tw_seq (tw_block (tw_seq (tw_region (ow_g (g_mv rfl) rfl (ow_g (g_as rfl) rfl ?_))))))
  refine ow_nil (tw_region (ow_g (g_mv rfl) rfl (ow_g (g_mv rfl) rfl (ow_g (g_mv rfl) rfl (ow_g (g_fold (j := 2) (g_quo rfl rfl (by decide)) (by decide)) rfl ?_)))))
  refine ow_g (g_ixa Try.underlying104 ty24 rfl rfl (by decide)) rfl ?_
  refine ow_g (g_ldb sc24 rfl hb19 rfl) rfl ?_
  refine ow_g (g_mv rfl) rfl (ow_g (g_fold (j := 3) (g_rem rfl rfl (by decide)) (by decide)) rfl ?_)
  refine ow_g (g_fold (j := 24) (g_mulw rfl rfl) (by decide)) rfl ?_
  refine ow_gx (e' := z148 / 16777216) (lo := 0) (hi := 1099511627775) (g_shrp (m := 16777216) rfl rfl (by decide) rfl) (rfl) (In.wk (in_div r109 (by decide)) rfl) rfl (fun z212 h140 r151 => ?_)
  refine ow_gx (e' := z212 % 256) (lo := 0) (hi := 255) (g_cv (by rw [Try.underlying24]; rfl) Try.underlying5 rfl) (wrap_uns rfl _) (In.wk (in_mod _ (by decide)) rfl) rfl (fun z213 h141 r152 => ?_)
  refine ow_g (g_ix Try.underlying22 ty5 rfl (by first | assumption | exact Own.rd ‹_› | exact Rd.keep0 ‹_› hB | exact Own.rd (Own.keep0 ‹_› hB)) rfl (by omega)) rfl ?_
  refine ow_d0 (d_sto (u := .int .u8 z213) ty5 rfl rfl rfl o53 (blt_lt rfl)) ?_
  rintro _ w79 ⟨o54, k79, z214⟩
  have z_k79 := k79.size
  replace o54 : Own w79 _ 5 1 v2 32 [.int .u8 z156, .int .u8 z159, .int .u8 z162, .int .u8 z165, .int .u8 z168, .int .u8 z171, .int .u8 z174, .int .u8 z177, .int .u8 z180, .int .u8 z183, .int .u8 z186, .int .u8 z189, .int .u8 z192, .int .u8 z195, .int .u8 z198, .int .u8 z201, .int .u8 z204, .int .u8 z207, .int .u8 z210, .int .u8 z213, .int .u8 0, .int .u8 0, .int .u8 0, .int .u8 0, .int .u8 0, .int .u8 0, .int .u8 0, .int .u8 0, .int .u8 0, .int .u8 0, .int .u8 0, .int .u8 0] := o54
  replace hb19 := hb19.keep k79 (fun hm => sb_b4_o34 _ hm rfl)
  replace hB := hB.new k79 (fun x hx => .inl (go_v2 x hx))
  clear z_k79 z214
  refine ow_nil (tw_keep [(5, _), (6, _), (74, _), (75, _)] ⟨rfl, rfl, rfl, rfl, trivial⟩ ?_)
  refine tw_b (tw_region (ow_g (g_fold (j := 20) (g_addw rfl rfl) (by decide)) rfl ?_))
  refine ow_g (g_mv rfl) rfl (ow_nil (tw_lp (tw_seq (tw_region (ow_g (g_lt rfl rfl) rfl ?_)))))
  refine ow_nil (tw_seq (tw_ifT rfl (by decide) ?_))
  refine tw_skip (tw_seq (tw_block (tw_seq (tw_region (ow_g (g_mv rfl) rfl (ow_g (g_as rfl) rfl ?_))))))
  refine ow_nil (tw_region (ow_g (g_mv rfl) rfl (ow_g (g_mv rfl) rfl (ow_g (g_mv rfl) rfl (ow_g (g_fold (j := 2) (g_quo rfl rfl (by decide)) (by decide)) rfl ?_)))))
  refine ow_g (g_ixa Try.underlying104 ty24 rfl rfl (by decide)) rfl ?_
  refine ow_g (g_ldb sc24 rfl hb19 rfl) rfl ?_
  refine ow_g (g_mv rfl) rfl (ow_g (g_fold (j := 4) (g_rem rfl rfl (by decide)) (by decide)) rfl ?_)
  refine ow_g (g_fold (j := 32) (g_mulw rfl rfl) (by decide)) rfl ?_
  refine ow_gx (e' := z148 / 4294967296) (lo := 0) (hi := 4294967295) (g_shrp (m := 4294967296) rfl rfl (by decide) rfl) (rfl) (In.wk (in_div r109 (by decide)) rfl) rfl (fun z215 h142 r153 => ?_)
  refine ow_gx (e' := z215 % 256) (lo := 0) (hi := 255) (g_cv (by rw [Try.underlying24]; rfl) Try.underlying5 rfl) (wrap_uns rfl _) (In.wk (in_mod _ (by decide)) rfl) rfl (fun z216 h143 r154 => ?_)
  refine ow_g (g_ix Try.underlying22 ty5 rfl (by first | assumption | exact Own.rd ‹_› | exact Rd.keep0 ‹_› hB | exact Own.rd (Own.keep0 ‹_› hB)) rfl (by omega)) rfl ?_
  refine ow_d0 (d_sto (u := .int .u8 z216) ty5 rfl rfl rfl o54 (blt_lt rfl)) ?_
  rintro _ w80 ⟨o55, k80, z217⟩
  have z_k80 := k80.size
  replace o55 : Own w80 _ 5 1 v2 32 [.int .u8 z156, .int .u8 z159, .int .u8 z162, .int .u8 z165, .int .u8 z168, .int .u8 z171, .int .u8 z174, .int .u8 z177, .int .u8 z180, .int .u8 z183, .int .u8 z186, .int .u8 z189, .int .u8 z192, .int .u8 z195, .int .u8 z198, .int .u8 z201, .int .u8 z204, .int .u8 z207, .int .u8 z210, .int .u8 z213, .int .u8 z216, .int .u8 0, .int .u8 0, .int .u8 0, .int .u8 0, .int .u8 0, .int .u8 0, .int .u8 0, .int .u8 0, .int .u8 0, .int .u8 0, .int .u8 0] := o55
  replace hb19 := hb19.keep k80 (fun hm => sb_b4_o34 _ hm rfl)
  replace hB := hB.new k80 (fun x hx => .inl (go_v2 x hx))
  clear z_k80 z217
  refine ow_nil (tw_keep [(5, _), (6, _), (74, _), (75, _)] ⟨rfl, rfl, rfl, rfl, trivial⟩ ?_)
  refine tw_b (tw_region (ow_g (g_fold (j := 21) (g_addw rfl rfl) (by decide)) rfl ?_))
  refine ow_g (g_mv rfl) rfl (ow_nil (tw_lp (tw_seq (tw_region (ow_g (g_lt rfl rfl) rfl ?_)))))
  refine ow_nil (tw_seq (tw_ifT rfl (by decide) ?_))
  refine tw_skip (tw_seq (tw_block (tw_seq (tw_region (ow_g (g_mv rfl) rfl (ow_g (g_as rfl) rfl ?_))))))
  refine ow_nil (tw_region (ow_g (g_mv rfl) rfl (ow_g (g_mv rfl) rfl (ow_g (g_mv rfl) rfl (ow_g (g_fold (j := 2) (g_quo rfl rfl (by decide)) (by decide)) rfl ?_)))))
  refine ow_g (g_ixa Try.underlying104 ty24 rfl rfl (by decide)) rfl ?_
  refine ow_g (g_ldb sc24 rfl hb19 rfl) rfl ?_
  refine ow_g (g_mv rfl) rfl (ow_g (g_fold (j := 5) (g_rem rfl rfl (by decide)) (by decide)) rfl ?_)
  refine ow_g (g_fold (j := 40) (g_mulw rfl rfl) (by decide)) rfl ?_
  refine ow_gx (e' := z148 / 1099511627776) (lo := 0) (hi := 16777215) (g_shrp (m := 1099511627776) rfl rfl (by decide) rfl) (rfl) (In.wk (in_div r109 (by decide)) rfl) rfl (fun z218 h144 r155 => ?_)
  refine ow_gx (e' := z218 % 256) (lo := 0) (hi := 255) (g_cv (by rw [Try.underlying24]; rfl) Try.underlying5 rfl) (wrap_uns rfl _) (In.wk (in_mod _ (by decide)) rfl) rfl (fun z219 h145 r156 => ?_)
  refine ow_g (g_ix Try.underlying22 ty5 rfl (by first | assumption | exact Own.rd ‹_› | exact Rd.keep0 ‹_› hB | exact Own.rd (Own.keep0 ‹_› hB)) rfl (by omega)) rfl ?_
  refine ow_d0 (d_sto (u := .int .u8 z219) ty5 rfl rfl rfl o55 (blt_lt rfl)) ?_
  rintro _ w81 ⟨o56, k81, z220⟩
  have z_k81 := k81.size
  replace o56 : Own w81 _ 5 1 v2 32 [.int .u8 z156, .int .u8 z159, .int .u8 z162, .int .u8 z165, .int .u8 z168, .int .u8 z171, .int .u8 z174, .int .u8 z177, .int .u8 z180, .int .u8 z183, .int .u8 z186, .int .u8 z189, .int .u8 z192, .int .u8 z195, .int .u8 z198, .int .u8 z201, .int .u8 z204, .int .u8 z207, .int .u8 z210, .int .u8 z213, .int .u8 z216, .int .u8 z219, .int .u8 0, .int .u8 0, .int .u8 0, .int .u8 0, .int .u8 0, .int .u8 0, .int .u8 0, .int .u8 0, .int .u8 0, .int .u8 0] := o56
  replace hb19 := hb19.keep k81 (fun hm => sb_b4_o34 _ hm rfl)
  replace hB := hB.new k81 (fun x hx => .inl (go_v2 x hx))
  clear z_k81 z220
  refine ow_nil (tw_keep [(5, _), (6, _), (74, _), (75, _)] ⟨rfl, rfl, rfl, rfl, trivial⟩ ?_)
  refine tw_b (tw_region (ow_g (g_fold (j := 22) (g_addw rfl rfl) (by decide)) rfl ?_))
  refine ow_g (g_mv rfl) rfl (ow_nil (tw_lp (tw_seq (tw_region (ow_g (g_lt rfl rfl) rfl ?_)))))
  refine ow_nil (tw_seq (tw_ifT rfl (by decide) ?_))
  refine tw_skip (tw_seq (tw_block (tw_seq (tw_region (ow_g (g_mv rfl) rfl (ow_g (g_as rfl) rfl ?_))))))
  refine ow_nil (tw_region (ow_g (g_mv rfl) rfl (ow_g (g_mv rfl) rfl (ow_g (g_mv rfl) rfl (ow_g (g_fold (j := 2) (g_quo rfl rfl (by decide)) (by decide)) rfl ?_)))))
  refine ow_g (g_ixa Try.underlying104 ty24 rfl rfl (by decide)) rfl ?_
  refine ow_g (g_ldb sc24 rfl hb19 rfl) rfl ?_
  refine ow_g (g_mv rfl) rfl (ow_g (g_fold (j := 6) (g_rem rfl rfl (by decide)) (by decide)) rfl ?_)
  refine ow_g (g_fold (j := 48) (g_mulw rfl rfl) (by decide)) rfl ?_
  refine ow_gx (e' := z148 / 281474976710656) (lo := 0) (hi := 65535) (g_shrp (m := 281474976710656) rfl rfl (by decide) rfl) (rfl) (In.wk (in_div r109 (by decide)) rfl) rfl (fun z221 h146 r157 => ?_)
  refine ow_gx (e' := z221 % 256) (lo := 0) (hi := 255) (g_cv (by rw [Try.underlying24]; rfl) Try.underlying5 rfl) (wrap_uns rfl _) (In.wk (in_mod _ (by decide)) rfl) rfl (fun z222 h147 r158 => ?_)
  refine ow_g (g_ix Try.underlying22 ty5 rfl (by first | assumption | exact Own.rd ‹_› | exact Rd.keep0 ‹_› hB | exact Own.rd (Own.keep0 ‹_› hB)) rfl (by omega)) rfl ?_
  refine ow_d0 (d_sto (u := .int .u8 z222) ty5 rfl rfl rfl o56 (blt_lt rfl)) ?_
  rintro _ w82 ⟨o57, k82, z223⟩
  have z_k82 := k82.size
  replace o57 : Own w82 _ 5 1 v2 32 [.int .u8 z156, .int .u8 z159, .int .u8 z162, .int .u8 z165, .int .u8 z168, .int .u8 z171, .int .u8 z174, .int .u8 z177, .int .u8 z180, .int .u8 z183, .int .u8 z186, .int .u8 z189, .int .u8 z192, .int .u8 z195, .int .u8 z198, .int .u8 z201, .int .u8 z204, .int .u8 z207, .int .u8 z210, .int .u8 z213, .int .u8 z216, .int .u8 z219, .int .u8 z222, .int .u8 0, .int .u8 0, .int .u8 0, .int .u8 0, .int .u8 0, .int .u8 0, .int .u8 0, .int .u8 0, .int .u8 0] := o57
  replace hb19 := hb19.keep k82 (fun hm => sb_b4_o34 _ hm rfl)
  replace hB := hB.new k82 (fun x hx => .inl (go_v2 x hx))
  clear z_k82 z223
  refine ow_nil (tw_keep [(5, _), (6, _), (74, _), (75, _)] ⟨rfl, rfl, rfl, rfl, trivial⟩ ?_)
  refine tw_b (tw_region (ow_g (g_fold (j := 23) (g_addw rfl rfl) (by decide)) rfl ?_))
  refine ow_g (g_mv rfl) rfl (ow_nil (tw_lp (tw_seq (tw_region (ow_g (g_lt rfl rfl) rfl ?_)))))
  refine ow_nil (tw_seq (tw_ifT rfl (by decide) ?_))
  refine tw_skip (tw_seq (tw_block (tw_seq (tw_region (ow_g (g_mv rfl) rfl (ow_g (g_as rfl) rfl ?_))))))
  refine ow_nil (tw_region (ow_g (g_mv rfl) rfl (ow_g (g_mv rfl) rfl (ow_g (g_mv rfl) rfl (ow_g (g_fold (j := 2) (g_quo rfl rfl (by decide)) (by decide)) rfl ?_)))))
  refine ow_g (g_ixa Try.underlying104 ty24 rfl rfl (by decide)) rfl ?_
  refine ow_g (g_ldb sc24 rfl hb19 rfl) rfl ?_
  refine ow_g (g_mv rfl) rfl (ow_g (g_fold (j := 7) (g_rem rfl rfl (by decide)) (by decide)) rfl ?_)
  refine ow_g (g_fold (j := 56) (g_mulw rfl rfl) (by decide)) rfl ?_
  refine ow_gx (e' := z148 / 72057594037927936) (lo := 0) (hi := 255) (g_shrp (m := 72057594037927936) rfl rfl (by decide) rfl) (rfl) (In.wk (in_div r109 (by decide)) rfl) rfl (fun z224 h148 r159 => ?_)
  refine ow_gx (e' := z224) (lo := 0) (hi := 255) (g_cv (by rw [Try.underlying24]; rfl) Try.underlying5 rfl) (wrap_fit r159 rfl) (r159) rfl (fun z225 h149 r160 => ?_)
  refine ow_g (g_ix Try.underlying22 ty5 rfl (by first | assumption | exact Own.rd ‹_› | exact Rd.keep0 ‹_› hB | exact Own.rd (Own.keep0 ‹_› hB)) rfl (by omega)) rfl ?_
  refine ow_d0 (d_sto (u := .int .u8 z225) ty5 rfl rfl rfl o57 (blt_lt rfl)) ?_
  rintro _ w83 ⟨o58, k83, z226⟩
  have z_k83 := k83.size
  replace o58 : Own w83 _ 5 1 v2 32 [.int .u8 z156, .int .u8 z159, .int .u8 z162, .int .u8 z165, .int .u8 z168, .int .u8 z171, .int .u8 z174, .int .u8 z177, .int .u8 z180, .int .u8 z183, .int .u8 z186, .int .u8 z189, .int .u8 z192, .int .u8 z195, .int .u8 z198, .int .u8 z201, .int .u8 z204, .int .u8 z207, .int .u8 z210, .int .u8 z213, .int .u8 z216, .int .u8 z219, .int .u8 z222, .int .u8 z225, .int .u8 0, .int .u8 0, .int .u8 0, .int .u8 0, .int .u8 0, .int .u8 0, .int .u8 0, .int .u8 0] := o58
  replace hb19 := hb19.keep k83 (fun hm => sb_b4_o34 _ hm rfl)
  replace hB := hB.new k83 (fun x hx => .inl (go_v2 x hx))
  clear z_k83 z226
  refine ow_nil (tw_keep [(5, _), (6, _), (74, _), (75, _)] ⟨rfl, rfl, rfl, rfl, trivial⟩ ?_)
  refine tw_b (tw_region (ow_g (g_fold (j := 24) (g_addw rfl rfl) (by decide)) rfl ?_))
  refine ow_g (g_mv rfl) rfl (ow_nil (tw_lp (tw_seq (tw_region (ow_g (g_lt rfl rfl) rfl ?_)))))
  refine ow_nil (tw_seq (tw_ifT rfl (by decide) ?_))
  refine tw_skip (tw_seq (tw_block (tw_seq (tw_region (ow_g (g_mv rfl) rfl (ow_g (g_as rfl) rfl ?_))))))
  refine ow_nil (tw_region (ow_g (g_mv rfl) rfl (ow_g (g_mv rfl) rfl (ow_g (g_mv rfl) rfl (ow_g (g_fold (j := 3) (g_quo rfl rfl (by decide)) (by decide)) rfl ?_)))))
  refine ow_g (g_ixa Try.underlying104 ty24 rfl rfl (by decide)) rfl ?_
  refine ow_g (g_ldb sc24 rfl hb19 rfl) rfl ?_
  refine ow_g (g_mv rfl) rfl (ow_g (g_fold (j := 0) (g_rem rfl rfl (by decide)) (by decide)) rfl ?_)
  refine ow_g (g_fold (j := 0) (g_mulw rfl rfl) (by decide)) rfl ?_
  refine ow_gx (e' := z151 / 1) (lo := 0) (hi := 9223372036854775807) (g_shrp (m := 1) rfl rfl (by decide) rfl) (rfl) (In.wk (in_div r112 (by decide)) rfl) rfl (fun z227 h150 r161 => ?_)
  refine ow_gx (e' := z227 % 256) (lo := 0) (hi := 255) (g_cv (by rw [Try.underlying24]; rfl) Try.underlying5 rfl) (wrap_uns rfl _) (In.wk (in_mod _ (by decide)) rfl) rfl (fun z228 h151 r162 => ?_)
  refine ow_g (g_ix Try.underlying22 ty5 rfl (by first | assumption | exact Own.rd ‹_› | exact Rd.keep0 ‹_› hB | exact Own.rd (Own.keep0 ‹_› hB)) rfl (by omega)) rfl ?_
  refine ow_d0 (d_sto (u := .int .u8 z228) ty5 rfl rfl rfl o58 (blt_lt rfl)) ?_
  rintro _ w84 ⟨o59, k84, z229⟩
  have z_k84 := k84.size
  replace o59 : Own w84 _ 5 1 v2 32 [.int .u8 z156, .int .u8 z159, .int .u8 z162, .int .u8 z165, .int .u8 z168, .int .u8 z171, .int .u8 z174, .int .u8 z177, .int .u8 z180, .int .u8 z183, .int .u8 z186, .int .u8 z189, .int .u8 z192, .int .u8 z195, .int .u8 z198, .int .u8 z201, .int .u8 z204, .int .u8 z207, .int .u8 z210, .int .u8 z213, .int .u8 z216, .int .u8 z219, .int .u8 z222, .int .u8 z225, .int .u8 z228, .int .u8 0, .int .u8 0, .int .u8 0, .int .u8 0, .int .u8 0, .int .u8 0, .int .u8 0] := o59
  replace hb19 := hb19.keep k84 (fun hm => sb_b4_o34 _ hm rfl)
  replace hB := hB.new k84 (fun x hx => .inl (go_v2 x hx))
  clear z_k84 z229
  refine ow_nil (tw_keep [(5, _), (6, _), (74, _), (75, _)] ⟨rfl, rfl, rfl, rfl, trivial⟩ ?_)
  refine tw_b (tw_region (ow_g (g_fold (j := 25) (g_addw rfl rfl) (by decide)) rfl ?_))
  refine ow_g (g_mv rfl) rfl (ow_nil (tw_lp (tw_seq (tw_region (ow_g (g_lt rfl rfl) rfl ?_)))))
  refine ow_nil (tw_seq (tw_ifT rfl (by decide) ?_))
  refine tw_skip (tw_seq (tw_block (tw_seq (tw_region (ow_g (g_mv rfl) rfl (ow_g (g_as rfl) rfl ?_))))))
  refine ow_nil (tw_region (ow_g (g_mv rfl) rfl (ow_g (g_mv rfl) rfl (ow_g (g_mv rfl) rfl (ow_g (g_fold (j := 3) (g_quo rfl rfl (by decide)) (by decide)) rfl ?_)))))
  refine ow_g (g_ixa Try.underlying104 ty24 rfl rfl (by decide)) rfl ?_
  refine ow_g (g_ldb sc24 rfl hb19 rfl) rfl ?_
  refine ow_g (g_mv rfl) rfl (ow_g (g_fold (j := 1) (g_rem rfl rfl (by decide)) (by decide)) rfl ?_)
  refine ow_g (g_fold (j := 8) (g_mulw rfl rfl) (by decide)) rfl ?_
  refine ow_gx (e' := z151 / 256) (lo := 0) (hi := 36028797018963967) (g_shrp (m := 256) rfl rfl (by decide) rfl) (rfl) (In.wk (in_div r112 (by decide)) rfl) rfl (fun z230 h152 r163 => ?_)
  refine ow_gx (e' := z230 % 256) (lo := 0) (hi := 255) (g_cv (by rw [Try.underlying24]; rfl) Try.underlying5 rfl) (wrap_uns rfl _) (In.wk (in_mod _ (by decide)) rfl) rfl (fun z231 h153 r164 => ?_)
  refine ow_g (g_ix Try.underlying22 ty5 rfl (by first | assumption | exact Own.rd ‹_› | exact Rd.keep0 ‹_› hB | exact Own.rd (Own.keep0 ‹_› hB)) rfl (by omega)) rfl ?_
  refine ow_d0 (d_sto (u := .int .u8 z231) ty5 rfl rfl rfl o59 (blt_lt rfl)) ?_
  rintro _ w85 ⟨o60, k85, z232⟩
  have z_k85 := k85.size
  replace o60 : Own w85 _ 5 1 v2 32 [.int .u8 z156, .int .u8 z159, .int .u8 z162, .int .u8 z165, .int .u8 z168, .int .u8 z171, .int .u8 z174, .int .u8 z177, .int .u8 z180, .int .u8 z183, .int .u8 z186, .int .u8 z189, .int .u8 z192, .int .u8 z195, .int .u8 z198, .int .u8 z201, .int .u8 z204, .int .u8 z207, .int .u8 z210, .int .u8 z213, .int .u8 z216, .int .u8 z219, .int .u8 z222, .int .u8 z225, .int .u8 z228, .int .u8 z231, .int .u8 0, .int .u8 0, .int .u8 0, .int .u8 0, .int .u8 0, .int .u8 0] := o60
  replace hb19 := hb19.keep k85 (fun hm => sb_b4_o34 _ hm rfl)
  replace hB := hB.new k85 (fun x hx => .inl (go_v2 x hx))
  clear z_k85 z232
  refine ow_nil (tw_keep [(5, _), (6, _), (74, _), (75, _)] ⟨rfl, rfl, rfl, rfl, trivial⟩ ?_)
  refine tw_b (tw_region (ow_g (g_fold (j := 26) (g_addw rfl rfl) (by decide)) rfl ?_))
  refine ow_g (g_mv rfl) rfl (ow_nil (tw_lp (tw_seq (tw_region (ow_g (g_lt rfl rfl) rfl ?_)))))
  refine ow_nil (tw_seq (tw_ifT rfl (by decide) ?_))
  refine tw_skip (tw_seq (tw_block (tw_seq (tw_region (ow_g (g_mv rfl) rfl (ow_g (g_as rfl) rfl ?_))))))
  refine ow_nil (tw_region (ow_g (g_mv rfl) rfl (ow_g (g_mv rfl) rfl (ow_g (g_mv rfl) rfl (ow_g (g_fold (j := 3) (g_quo rfl rfl (by decide)) (by decide)) rfl ?_)))))
  refine ow_g (g_ixa Try.underlying104 ty24 rfl rfl (by decide)) rfl ?_
  refine ow_g (g_ldb sc24 rfl hb19 rfl) rfl ?_
  refine ow_g (g_mv rfl) rfl (ow_g (g_fold (j := 2) (g_rem rfl rfl (by decide)) (by decide)) rfl ?_)
  refine ow_g (g_fold (j := 16) (g_mulw rfl rfl) (by decide)) rfl ?_
  refine ow_gx (e' := z151 / 65536) (lo := 0) (hi := 140737488355327) (g_shrp (m := 65536) rfl rfl (by decide) rfl) (rfl) (In.wk (in_div r112 (by decide)) rfl) rfl (fun z233 h154 r165 => ?_)
  refine ow_gx (e' := z233 % 256) (lo := 0) (hi := 255) (g_cv (by rw [Try.underlying24]; rfl) Try.underlying5 rfl) (wrap_uns rfl _) (In.wk (in_mod _ (by decide)) rfl) rfl (fun z234 h155 r166 => ?_)
  refine ow_g (g_ix Try.underlying22 ty5 rfl (by first | assumption | exact Own.rd ‹_› | exact Rd.keep0 ‹_› hB | exact Own.rd (Own.keep0 ‹_› hB)) rfl (by omega)) rfl ?_
  refine ow_d0 (d_sto (u := .int .u8 z234) ty5 rfl rfl rfl o60 (blt_lt rfl)) ?_
  rintro _ w86 ⟨o61, k86, z235⟩
  have z_k86 := k86.size
  replace o61 : Own w86 _ 5 1 v2 32 [.int .u8 z156, .int .u8 z159, .int .u8 z162, .int .u8 z165, .int .u8 z168, .int .u8 z171, .int .u8 z174, .int .u8 z177, .int .u8 z180, .int .u8 z183, .int .u8 z186, .int .u8 z189, .int .u8 z192, .int .u8 z195, .int .u8 z198, .int .u8 z201, .int .u8 z204, .int .u8 z207, .int .u8 z210, .int .u8 z213, .int .u8 z216, .int .u8 z219, .int .u8 z222, .int .u8 z225, .int .u8 z228, .int .u8 z231, .int .u8 z234, .int .u8 0, .int .u8 0, .int .u8 0, .int .u8 0, .int .u8 0] := o61
  replace hb19 := hb19.keep k86 (fun hm => sb_b4_o34 _ hm rfl)
  replace hB := hB.new k86 (fun x hx => .inl (go_v2 x hx))
  clear z_k86 z235
  refine ow_nil (tw_keep [(5, _), (6, _), (74, _), (75, _)] ⟨rfl, rfl, rfl, rfl, trivial⟩ ?_)
  refine tw_b (tw_region (ow_g (g_fold (j := 27) (g_addw rfl rfl) (by decide)) rfl ?_))
  refine ow_g (g_mv rfl) rfl (ow_nil (tw_lp (tw_seq (tw_region (ow_g (g_lt rfl rfl) rfl ?_)))))
  refine ow_nil (tw_seq (tw_ifT rfl (by decide) ?_))
  refine tw_skip (tw_seq (tw_block (tw_seq (tw_region (ow_g (g_mv rfl) rfl (ow_g (g_as rfl) rfl ?_))))))
  refine ow_nil (tw_region (ow_g (g_mv rfl) rfl (ow_g (g_mv rfl) rfl (ow_g (g_mv rfl) rfl (ow_g (g_fold (j := 3) (g_quo rfl rfl (by decide)) (by decide)) rfl ?_)))))
  refine ow_g (g_ixa Try.underlying104 ty24 rfl rfl (by decide)) rfl ?_
  refine ow_g (g_ldb sc24 rfl hb19 rfl) rfl ?_
  refine ow_g (g_mv rfl) rfl (ow_g (g_fold (j := 3) (g_rem rfl rfl (by decide)) (by decide)) rfl ?_)
  refine ow_g (g_fold (j := 24) (g_mulw rfl rfl) (by decide)) rfl ?_
  refine ow_gx (e' := z151 / 16777216) (lo := 0) (hi := 549755813887) (g_shrp (m := 16777216) rfl rfl (by decide) rfl) (rfl) (In.wk (in_div r112 (by decide)) rfl) rfl (fun z236 h156 r167 => ?_)
  refine ow_gx (e' := z236 % 256) (lo := 0) (hi := 255) (g_cv (by rw [Try.underlying24]; rfl) Try.underlying5 rfl) (wrap_uns rfl _) (In.wk (in_mod _ (by decide)) rfl) rfl (fun z237 h157 r168 => ?_)
  refine ow_g (g_ix Try.underlying22 ty5 rfl (by first | assumption | exact Own.rd ‹_› | exact Rd.keep0 ‹_› hB | exact Own.rd (Own.keep0 ‹_› hB)) rfl (by omega)) rfl ?_
  refine ow_d0 (d_sto (u := .int .u8 z237) ty5 rfl rfl rfl o61 (blt_lt rfl)) ?_
  rintro _ w87 ⟨o62, k87, z238⟩
  have z_k87 := k87.size
  replace o62 : Own w87 _ 5 1 v2 32 [.int .u8 z156, .int .u8 z159, .int .u8 z162, .int .u8 z165, .int .u8 z168, .int .u8 z171, .int .u8 z174, .int .u8 z177, .int .u8 z180, .int .u8 z183, .int .u8 z186, .int .u8 z189, .int .u8 z192, .int .u8 z195, .int .u8 z198, .int .u8 z201, .int .u8 z204, .int .u8 z207, .int .u8 z210, .int .u8 z213, .int .u8 z216, .int .u8 z219, .int .u8 z222, .int .u8 z225, .int .u8 z228, .int .u8 z231, .int .u8 z234, .int .u8 z237, .int .u8 0, .int .u8 0, .int .u8 0, .int .u8 0] := o62
  replace hb19 := hb19.keep k87 (fun hm => sb_b4_o34 _ hm rfl)
  replace hB := hB.new k87 (fun x hx => .inl (go_v2 x hx))
  clear z_k87 z238
  refine ow_nil (tw_keep [(5, _), (6, _), (74, _), (75, _)] ⟨rfl, rfl, rfl, rfl, trivial⟩ ?_)
  refine tw_b (tw_region (ow_g (g_fold (j := 28) (g_addw rfl rfl) (by decide)) rfl ?_))
  refine ow_g (g_mv rfl) rfl (ow_nil (tw_lp (tw_seq (tw_region (ow_g (g_lt rfl rfl) rfl ?_)))))
  refine ow_nil (tw_seq (tw_ifT rfl (by decide) ?_))
  refine tw_skip (tw_seq (tw_block (tw_seq (tw_region (ow_g (g_mv rfl) rfl (ow_g (g_as rfl) rfl ?_))))))
  refine ow_nil (tw_region (ow_g (g_mv rfl) rfl (ow_g (g_mv rfl) rfl (ow_g (g_mv rfl) rfl (ow_g (g_fold (j := 3) (g_quo rfl rfl (by decide)) (by decide)) rfl ?_)))))
  refine ow_g (g_ixa Try.underlying104 ty24 rfl rfl (by decide)) rfl ?_
  refine ow_g (g_ldb sc24 rfl hb19 rfl) rfl ?_
  refine ow_g (g_mv rfl) rfl (ow_g (g_fold (j := 4) (g_rem rfl rfl (by decide)) (by decide)) rfl ?_)
  refine ow_g (g_fold (j := 32) (g_mulw rfl rfl) (by decide)) rfl ?_
  refine ow_gx (e' := z151 / 4294967296) (lo := 0) (hi := 2147483647) (g_shrp (m := 4294967296) rfl rfl (by decide) rfl) (rfl) (In.wk (in_div r112 (by decide)) rfl) rfl (fun z239 h158 r169 => ?_)
  refine ow_gx (e' := z239 % 256) (lo := 0) (hi := 255) (g_cv (by rw [Try.underlying24]; rfl) Try.underlying5 rfl) (wrap_uns rfl _) (In.wk (in_mod _ (by decide)) rfl) rfl (fun z240 h159 r170 => ?_)
  refine ow_g (g_ix Try.underlying22 ty5 rfl (by first | assumption | exact Own.rd ‹_› | exact Rd.keep0 ‹_› hB | exact Own.rd (Own.keep0 ‹_› hB)) rfl (by omega)) rfl ?_
  refine ow_d0 (d_sto (u := .int .u8 z240) ty5 rfl rfl rfl o62 (blt_lt rfl)) ?_
  rintro _ w88 ⟨o63, k88, z241⟩
  have z_k88 := k88.size
  replace o63 : Own w88 _ 5 1 v2 32 [.int .u8 z156, .int .u8 z159, .int .u8 z162, .int .u8 z165, .int .u8 z168, .int .u8 z171, .int .u8 z174, .int .u8 z177, .int .u8 z180, .int .u8 z183, .int .u8 z186, .int .u8 z189, .int .u8 z192, .int .u8 z195, .int .u8 z198, .int .u8 z201, .int .u8 z204, .int .u8 z207, .int .u8 z210, .int .u8 z213, .int .u8 z216, .int .u8 z219, .int .u8 z222, .int .u8 z225, .int .u8 z228, .int .u8 z231, .int .u8 z234, .int .u8 z237, .int .u8 z240, .int .u8 0, .int .u8 0, .int .u8 0] := o63
  replace hb19 := hb19.keep k88 (fun hm => sb_b4_o34 _ hm rfl)
  replace hB := hB.new k88 (fun x hx => .inl (go_v2 x hx))
  clear z_k88 z241
  refine ow_nil (tw_keep [(5, _), (6, _), (74, _), (75, _)] ⟨rfl, rfl, rfl, rfl, trivial⟩ ?_)
  refine tw_b (tw_region (ow_g (g_fold (j := 29) (g_addw rfl rfl) (by decide)) rfl ?_))
  refine ow_g (g_mv rfl) rfl (ow_nil (tw_lp (tw_seq (tw_region (ow_g (g_lt rfl rfl) rfl ?_)))))
  refine ow_nil (tw_seq (tw_ifT rfl (by decide) ?_))
  refine tw_skip (tw_seq (tw_block (tw_seq (tw_region (ow_g (g_mv rfl) rfl (ow_g (g_as rfl) rfl ?_))))))
  refine ow_nil (tw_region (ow_g (g_mv rfl) rfl (ow_g (g_mv rfl) rfl (ow_g (g_mv rfl) rfl (ow_g (g_fold (j := 3) (g_quo rfl rfl (by decide)) (by decide)) rfl ?_)))))
  refine ow_g (g_ixa Try.underlying104 ty24 rfl rfl (by decide)) rfl ?_
  refine ow_g (g_ldb sc24 rfl hb19 rfl) rfl ?_
  refine ow_g (g_mv rfl) rfl (ow_g (g_fold (j := 5) (g_rem rfl rfl (by decide)) (by decide)) rfl ?_)
  refine ow_g (g_fold (j := 40) (g_mulw rfl rfl) (by decide)) rfl ?_
  refine ow_gx (e' := z151 / 1099511627776) (lo := 0) (hi := 8388607) (g_shrp (m := 1099511627776) rfl rfl (by decide) rfl) (rfl) (In.wk (in_div r112 (by decide)) rfl) rfl (fun z242 h160 r171 => ?_)
  refine ow_gx (e' := z242 % 256) (lo := 0) (hi := 255) (g_cv (by rw [Try.underlying24]; rfl) Try.underlying5 rfl) (wrap_uns rfl _) (In.wk (in_mod _ (by decide)) rfl) rfl (fun z243 h161 r172 => ?_)
  refine ow_g (g_ix Try.underlying22 ty5 rfl (by first | assumption | exact Own.rd ‹_› | exact Rd.keep0 ‹_› hB | exact Own.rd (Own.keep0 ‹_› hB)) rfl (by omega)) rfl ?_
  refine ow_d0 (d_sto (u := .int .u8 z243) ty5 rfl rfl rfl o63 (blt_lt rfl)) ?_
  rintro _ w89 ⟨o64, k89, z244⟩
  have z_k89 := k89.size
  replace o64 : Own w89 _ 5 1 v2 32 [.int .u8 z156, .int .u8 z159, .int .u8 z162, .int .u8 z165, .int .u8 z168, .int .u8 z171, .int .u8 z174, .int .u8 z177, .int .u8 z180, .int .u8 z183, .int .u8 z186, .int .u8 z189, .int .u8 z192, .int .u8 z195, .int .u8 z198, .int .u8 z201, .int .u8 z204, .int .u8 z207, .int .u8 z210, .int .u8 z213, .int .u8 z216, .int .u8 z219, .int .u8 z222, .int .u8 z225, .int .u8 z228, .int .u8 z231, .int .u8 z234, .int .u8 z237, .int .u8 z240, .int .u8 z243, .int .u8 0, .int .u8 0] := o64
  replace hb19 := hb19.keep k89 (fun hm => sb_b4_o34 _ hm rfl)
  replace hB := hB.new k89 (fun x hx => .inl (go_v2 x hx))
  clear z_k89 z244
  refine ow_nil (tw_keep [(5, _), (6, _), (74, _), (75, _)] ⟨rfl, rfl, rfl, rfl, trivial⟩ ?_)
  refine tw_b (tw_region (ow_g (g_fold (j := 30) (g_addw rfl rfl) (by decide)) rfl ?_))
  refine ow_g (g_mv rfl) rfl (ow_nil (tw_lp (tw_seq (tw_region (ow_g (g_lt rfl rfl) rfl ?_)))))
  refine ow_nil (tw_seq (tw_ifT rfl (by decide) ?_))
  refine tw_skip (tw_seq (tw_block (tw_seq (tw_region (ow_g (g_mv rfl) rfl (ow_g (g_as rfl) rfl ?_))))))
  refine ow_nil (tw_region (ow_g (g_mv rfl) rfl (ow_g (g_mv rfl) rfl (ow_g (g_mv rfl) rfl (ow_g (g_fold (j := 3) (g_quo rfl rfl (by decide)) (by decide)) rfl ?_)))))
  refine ow_g (g_ixa Try.underlying104 ty24 rfl rfl (by decide)) rfl ?_
  refine ow_g (g_ldb sc24 rfl hb19 rfl) rfl ?_
  refine ow_g (g_mv rfl) rfl (ow_g (g_fold (j := 6) (g_rem rfl rfl (by decide)) (by decide)) rfl ?_)
  refine ow_g (g_fold (j := 48) (g_mulw rfl rfl) (by decide)) rfl ?_
  refine ow_gx (e' := z151 / 281474976710656) (lo := 0) (hi := 32767) (g_shrp (m := 281474976710656) rfl rfl (by decide) rfl) (rfl) (In.wk (in_div r112 (by decide)) rfl) rfl (fun z245 h162 r173 => ?_)
  refine ow_gx (e' := z245 % 256) (lo := 0) (hi := 255) (g_cv (by rw [Try.underlying24]; rfl) Try.underlying5 rfl) (wrap_uns rfl _) (In.wk (in_mod _ (by decide)) rfl) rfl (fun z246 h163 r174 => ?_)
  refine ow_g (g_ix Try.underlying22 ty5 rfl (by first | assumption | exact Own.rd ‹_› | exact Rd.keep0 ‹_› hB | exact Own.rd (Own.keep0 ‹_› hB)) rfl (by omega)) rfl ?_
  refine ow_d0 (d_sto (u := .int .u8 z246) ty5 rfl rfl rfl o64 (blt_lt rfl)) ?_
  rintro _ w90 ⟨o65, k90, z247⟩
  have z_k90 := k90.size
  replace o65 : Own w90 _ 5 1 v2 32 [.int .u8 z156, .int .u8 z159, .int .u8 z162, .int .u8 z165, .int .u8 z168, .int .u8 z171, .int .u8 z174, .int .u8 z177, .int .u8 z180, .int .u8 z183, .int .u8 z186, .int .u8 z189, .int .u8 z192, .int .u8 z195, .int .u8 z198, .int .u8 z201, .int .u8 z204, .int .u8 z207, .int .u8 z210, .int .u8 z213, .int .u8 z216, .int .u8 z219, .int .u8 z222, .int .u8 z225, .int .u8 z228, .int .u8 z231, .int .u8 z234, .int .u8 z237, .int .u8 z240, .int .u8 z243, .int .u8 z246, .int .u8 0] := o65
  replace hb19 := hb19.keep k90 (fun hm => sb_b4_o34 _ hm rfl)
  replace hB := hB.new k90 (fun x hx => .inl (go_v2 x hx))
  clear z_k90 z247
  refine ow_nil (tw_keep [(5, _), (6, _), (74, _), (75, _)] ⟨rfl, rfl, rfl, rfl, trivial⟩ ?_)
  refine tw_b (tw_region (ow_g (g_fold (j := 31) (g_addw rfl rfl) (by decide)) rfl ?_))
  refine ow_g (g_mv rfl) rfl (ow_nil (tw_lp (tw_seq (tw_region (ow_g (g_lt rfl rfl) rfl ?_)))))
  refine ow_nil (tw_seq (tw_ifT rfl (by decide) ?_))
  refine tw_skip (tw_seq (tw_block (tw_seq (tw_region (ow_g (g_mv rfl) rfl (ow_g (g_as rfl) rfl ?_))))))
  refine ow_nil (tw_region (ow_g (g_mv rfl) rfl (ow_g (g_mv rfl) rfl (ow_g (g_mv rfl) rfl (ow_g (g_fold (j := 3) (g_quo rfl rfl (by decide)) (by decide)) rfl ?_)))))
  refine ow_g (g_ixa Try.underlying104 ty24 rfl rfl (by decide)) rfl ?_
  refine ow_g (g_ldb sc24 rfl hb19 rfl) rfl ?_
  refine ow_g (g_mv rfl) rfl (ow_g (g_fold (j := 7) (g_rem rfl rfl (by decide)) (by decide)) rfl ?_)
  refine ow_g (g_fold (j := 56) (g_mulw rfl rfl) (by decide)) rfl ?_
  refine ow_gx (e' := z151 / 72057594037927936) (lo := 0) (hi := 127) (g_shrp (m := 72057594037927936) rfl rfl (by decide) rfl) (rfl) (In.wk (in_div r112 (by decide)) rfl) rfl (fun z248 h164 r175 => ?_)
  refine ow_gx (e' := z248) (lo := 0) (hi := 127) (g_cv (by rw [Try.underlying24]; rfl) Try.underlying5 rfl) (wrap_fit r175 rfl) (r175) rfl (fun z249 h165 r176 => ?_)
  refine ow_g (g_ix Try.underlying22 ty5 rfl (by first | assumption | exact Own.rd ‹_› | exact Rd.keep0 ‹_› hB | exact Own.rd (Own.keep0 ‹_› hB)) rfl (by omega)) rfl ?_
  refine ow_d0 (d_sto (u := .int .u8 z249) ty5 rfl rfl rfl o65 (blt_lt rfl)) ?_
  rintro _ w91 ⟨o66, k91, z250⟩
  have z_k91 := k91.size
  replace o66 : Own w91 _ 5 1 v2 32 [.int .u8 z156, .int .u8 z159, .int .u8 z162, .int .u8 z165, .int .u8 z168, .int .u8 z171, .int .u8 z174, .int .u8 z177, .int .u8 z180, .int .u8 z183, .int .u8 z186, .int .u8 z189, .int .u8 z192, .int .u8 z195, .int .u8 z198, .int .u8 z201, .int .u8 z204, .int .u8 z207, .int .u8 z210, .int .u8 z213, .int .u8 z216, .int .u8 z219, .int .u8 z222, .int .u8 z225, .int .u8 z228, .int .u8 z231, .int .u8 z234, .int .u8 z237, .int .u8 z240, .int .u8 z243, .int .u8 z246, .int .u8 z249] := o66
  replace hb19 := hb19.keep k91 (fun hm => sb_b4_o34 _ hm rfl)
  replace hB := hB.new k91 (fun x hx => .inl (go_v2 x hx))
  clear z_k91 z250
  refine ow_nil (tw_keep [(5, _), (6, _), (74, _), (75, _)] ⟨rfl, rfl, rfl, rfl, trivial⟩ ?_)
  refine tw_b (tw_region (ow_g (g_fold (j := 32) (g_addw rfl rfl) (by decide)) rfl ?_))
  refine ow_g (g_mv rfl) rfl (ow_nil (tw_lp (tw_seq (tw_region (ow_g (g_lt rfl rfl) rfl ?_)))))
  refine ow_nil (tw_seq (tw_ifF rfl (by decide) ?_))
  refine tw_exit rfl ?_
  refine tw_seq (tw_region (ow_g (g_mv rfl) rfl (ow_g (g_as rfl) rfl (ow_nil (tw_ret1 hfin Try.results68 rfl ?_)))))
  have hv2 : val5 hh2 = hh2 0 + hh2 1 * 2251799813685248 + hh2 2 * 5070602400912917605986812821504 + hh2 3 * 11417981541647679048466287755595961091061972992 + hh2 4 * 25711008708143844408671393477458601640355247900524685364822016 := rfl
  have hV0 : In ((hh2 0) + (hh2 1) * 2251799813685248 + (hh2 2) * 5070602400912917605986812821504 + (hh2 3) * 11417981541647679048466287755595961091061972992 + (hh2 4) * 25711008708143844408671393477458601640355247900524685364822016) 0 (57896044618658097711785492504343953926634992332820282019728792003956564819949 - 1) := by clear e01 e11 e21 e31 e41 g01 g11 g21 g31 g41 e02 e12 e22 e32 e42 g02 g12 g22 g32 g42 gv1 gv2; simp only [Eqn, In] at h1 h2 h3 h4 h5 h6 h7 h8 h9 h10 h11 h12 h13 h14 r11 r7 r8 r9 r10 ⊢; omega
  have hVa : fp ((hh2 0) + (hh2 1) * 2251799813685248 + (hh2 2) * 5070602400912917605986812821504 + (hh2 3) * 11417981541647679048466287755595961091061972992 + (hh2 4) * 25711008708143844408671393477458601640355247900524685364822016) = a := by rw [← hfv]; exact fp_eq (-(c41 + c42)) (by have gv1 := gv1; have gv2 := gv2; clear e01 e11 e21 e31 e41 g01 g11 g21 g31 g41 e02 e12 e22 e32 e42 g02 g12 g22 g32 g42; simp only [Eqn, In] at h1 h2 h3 h4 h5 h6 h7 h8 h9 h10 h11 h12 h13 h14 r11 r7 r8 r9 r10; omega)
  have hval : (a.val : Int) = ((hh2 0) + (hh2 1) * 2251799813685248 + (hh2 2) * 5070602400912917605986812821504 + (hh2 3) * 11417981541647679048466287755595961091061972992 + (hh2 4) * 25711008708143844408671393477458601640355247900524685364822016) := val_of hVa hV0.1 (by have := hV0.2; omega)
  have hpw := put_words (In.wk r11 rfl) (In.wk r7 rfl) (In.wk r8 rfl) (In.wk r9 rfl) (In.wk r10 rfl)
  have hwb := words_bytes (V := ((hh2 0) + (hh2 1) * 2251799813685248 + (hh2 2) * 5070602400912917605986812821504 + (hh2 3) * 11417981541647679048466287755595961091061972992 + (hh2 4) * 25711008708143844408671393477458601640355247900524685364822016)) (In.wk r103 rfl) (In.wk r106 rfl) (In.wk r109 rfl) (In.wk r112 rfl) (by clear hval hVa hV0; simp only [Eqn] at h101 h100 h99 h98 h97 h96 h95 h94 h93 h92 h91; subst h101 h100 h99 h98 h97 h96 h95 h94 h93 h92 h91; exact hpw)
  have hcs : [.int .u8 z156, .int .u8 z159, .int .u8 z162, .int .u8 z165, .int .u8 z168, .int .u8 z171, .int .u8 z174, .int .u8 z177, .int .u8 z180, .int .u8 z183, .int .u8 z186, .int .u8 z189, .int .u8 z192, .int .u8 z195, .int .u8 z198, .int .u8 z201, .int .u8 z204, .int .u8 z207, .int .u8 z210, .int .u8 z213, .int .u8 z216, .int .u8 z219, .int .u8 z222, .int .u8 z225, .int .u8 z228, .int .u8 z231, .int .u8 z234, .int .u8 z237, .int .u8 z240, .int .u8 z243, .int .u8 z246, .int .u8 z249] = bv (fpB a) := by
   rw [bv_fpB, hval, hwb]
   simp only [Eqn] at h165 h164 h163 h162 h161 h160 h159 h158 h157 h156 h155 h154 h153 h152 h151 h150 h149 h148 h147 h146 h145 h144 h143 h142 h141 h140 h139 h138 h137 h136 h135 h134 h133 h132 h131 h130 h129 h128 h127 h126 h125 h124 h123 h122 h121 h120 h119 h118 h117 h116 h115 h114 h113 h112 h111 h110 h109 h108 h107 h106 h105 h104 h103 h102
   simp only [h165, h164, h163, h162, h161, h160, h159, h158, h157, h156, h155, h154, h153, h152, h151, h150, h149, h148, h147, h146, h145, h144, h143, h142, h141, h140, h139, h138, h137, h136, h135, h134, h133, h132, h131, h130, h129, h128, h127, h126, h125, h124, h123, h122, h121, h120, h119, h118, h117, h116, h115, h114, h113, h112, h111, h110, h109, h108, h107, h106, h105, h104, h103, h102, Int.ediv_one]
  rw [hcs] at o66
  exact ⟨by unfold OwnB; rw [fpB_length]; exact o66.lo gl_v2, hB⟩
end Go.Proofs.Ytkngeapegpehpaa.W
namespace Go.Proofs.Ytkngeapegpehpaa.W
open Go Go.Eng Go.Byt
set_option linter.unusedVariables false
set_option linter.unusedSimpArgs false
open Go.Fld Go.Ed
set_option maxRecDepth 100000 in
set_option maxHeartbeats 1000000 in
theorem same_any (f g : Nat → Int) (a b : Fp) (hf : El f a) (hg : El g b) (w : World) : Rets Try.prog 83 [.agg (iv .u64 5 f).toArray, .agg (iv .u64 5 g).toArray] w (fun v w' => v = .bool (decide (a = b)) ∧ Keep [] w w') := by
 have hB : Keep [] w w := Keep.refl _ _
 refine rets_of_tw Try.func83 rfl (by decide) Try.ntmps83 rfl (fun fin _ hfin => ?_)
 refine tw_seq (tw_region (ow_d (d_box (cs := [.int .u64 (f 0), .int .u64 (f 1), .int .u64 (f 2), .int .u64 (f 3), .int .u64 (f 4)]) rfl rfl) rfl ?_))
 rintro _ w1 ⟨b1, rfl, eb1, hb1, k1, z1⟩
 have ge_b1 : w.heap.size ≤ b1 := by have := hB.size; omega
 replace hB := hB.trans k1
 clear eb1 z1
 refine ow_d (d_box (cs := [.int .u64 (g 0), .int .u64 (g 1), .int .u64 (g 2), .int .u64 (g 3), .int .u64 (g 4)]) rfl rfl) rfl ?_
 rintro _ w2 ⟨b2, rfl, eb2, hb2, k2, z2⟩
 have ge_b2 : w.heap.size ≤ b2 := by have := hB.size; omega
 have ne_b1_b2 : b1 ≠ b2 := by have := hb1.lt; omega
 replace hb1 := hb1.keep0 k2
 replace hB := hB.trans k2
 clear eb2 z2
 refine ow_g (g_as rfl) rfl (ow_nil (tw_seq (tw_plan 9 [0, 4, 1, 2, 3, 5, 6, 7, 8] [1, 5] [] mixed [(2, _), (3, _), (4, _)] ⟨rfl, rfl, rfl, trivial⟩ (by decide +kernel) rfl (fun w3 k3 => ?_))))
 replace hb1 := hb1.keep0 k3
 replace hb2 := hb2.keep0 k3
 replace hB := hB.trans k3
 refine pw_g [(2, _)] rfl rfl ⟨rfl, trivial⟩ rfl (fun W' kk => g_ldab (cs' := [_, _, _, _, _]) ag26 ty26 rfl (Bk.keep0 hb1 kk) rfl rfl) ?_
 refine pw_g [(3, _)] rfl rfl ⟨rfl, trivial⟩ rfl (fun W' kk => g_ldab (cs' := [_, _, _, _, _]) ag26 ty26 rfl (Bk.keep0 hb2 kk) rfl rfl) ?_
 refine pw_d [(5, _)] rfl rfl ⟨rfl, trivial⟩ rfl (d_call (vs := [_]) rfl (put_any _ _ hf _)) ?_
 rintro v1 w4 ⟨o1, k4⟩
 refine ⟨k4, ?_⟩
 have gl_o1 := hB.size
 have sb_b1_o1 := fun x hx => (show x ≠ b1 from by have h1 := (o1.blk x hx).1; have h2 := hb1.lt; omega)
 have sb_b2_o1 := fun x hx => (show x ≠ b2 from by have h1 := (o1.blk x hx).1; have h2 := hb2.lt; omega)
 replace hb1 := hb1.keep0 k4
 replace hb2 := hb2.keep0 k4
 replace hB := hB.trans k4
 have u_o1 := o1.blk
 refine pw_g [(6, _)] rfl rfl ⟨rfl, trivial⟩ rfl (fun W' kk => g_sap Try.underlying116 rfl (by first | exact Rd.keep0 ‹_› kk | exact Rd.keep0 (Own.rd ‹_›) kk | exact Rd.keep0 (Rd.keep0 ‹_› hB) kk | exact Rd.keep0 (Own.rd (Own.keep0 ‹_› hB)) kk) (by simp only [Fld.fpB_length]; rfl) rfl) ?_
 refine pw_g [(7, _)] rfl rfl ⟨rfl, trivial⟩ rfl (fun W' kk => g_ldaB (xs := (fpB a)) ag116 ty116 rfl (by first | exact Rd.keep0 ‹_› kk | exact Rd.keep0 (Own.rd ‹_›) kk | exact Rd.keep0 (Rd.keep0 ‹_› hB) kk | exact Rd.keep0 (Own.rd (Own.keep0 ‹_› hB)) kk) (Fld.fpB_length _) rfl) ?_
 refine pw_d [(9, _)] rfl rfl ⟨rfl, trivial⟩ rfl (d_call (vs := [_]) rfl (put_any _ _ hg _)) ?_
 rintro v2 w5 ⟨o2, k5⟩
 refine ⟨k5, ?_⟩
 have gl_o2 := hB.size
 have sb_b1_o2 := fun x hx => (show x ≠ b1 from by have h1 := (o2.blk x hx).1; have h2 := hb1.lt; omega)
 have sb_b2_o2 := fun x hx => (show x ≠ b2 from by have h1 := (o2.blk x hx).1; have h2 := hb2.lt; omega)
 replace hb1 := hb1.keep0 k5
 replace hb2 := hb2.keep0 k5
 replace o1 := o1.keep0 k5
 replace hB := hB.trans k5
 have u_o2 := o2.blk
 refine pw_g [(10, _)] rfl rfl ⟨rfl, trivial⟩ rfl (fun W' kk => g_sap Try.underlying116 rfl (by first | exact Rd.keep0 ‹_› kk | exact Rd.keep0 (Own.rd ‹_›) kk | exact Rd.keep0 (Rd.keep0 ‹_› hB) kk | exact Rd.keep0 (Own.rd (Own.keep0 ‹_› hB)) kk) (by simp only [Fld.fpB_length]; rfl) rfl) ?_
 refine pw_g [(11, _)] rfl rfl ⟨rfl, trivial⟩ rfl (fun W' kk => g_ldaB (xs := (fpB b)) ag116 ty116 rfl (by first | exact Rd.keep0 ‹_› kk | exact Rd.keep0 (Own.rd ‹_›) kk | exact Rd.keep0 (Rd.keep0 ‹_› hB) kk | exact Rd.keep0 (Own.rd (Own.keep0 ‹_› hB)) kk) (Fld.fpB_length _) rfl) ?_
 refine pw_g [(8, _), (12, _)] rfl rfl ⟨rfl, rfl, trivial⟩ rfl (fun W' kk => g_eqB Try.underlying116 Try.underlying5 ty5.sizeOf (by kernel_rfl) rfl rfl (Fld.fpB_length _) (Fld.fpB_length _)) ?_
 refine pw_nil ?_
 refine ow_g (g_as rfl) rfl (ow_nil (tw_keep [(4, _)] ⟨rfl, trivial⟩ ?_))
 refine tw_ret1 hfin Try.results83 rfl ?_
 exact ⟨by rw [fpB_dec], hB⟩
set_option maxRecDepth 100000 in
set_option maxHeartbeats 1000000 in
theorem zero_any (f : Nat → Int) (a : Fp) (hf : El f a) (w : World) : Rets Try.prog 85 [.agg (iv .u64 5 f).toArray] w (fun v w' => v = .bool (decide (a = 0)) ∧ Keep [] w w') := by
 have hB : Keep [] w w := Keep.refl _ _
 refine rets_of_tw Try.func85 rfl (by decide) Try.ntmps85 rfl (fun fin _ hfin => ?_)
 refine tw_seq (tw_region (ow_d (d_box (cs := [.int .u64 (f 0), .int .u64 (f 1), .int .u64 (f 2), .int .u64 (f 3), .int .u64 (f 4)]) rfl rfl) rfl ?_))
 rintro _ w1 ⟨b1, rfl, eb1, hb1, k1, z1⟩
 have ge_b1 : w.heap.size ≤ b1 := by have := hB.size; omega
 replace hB := hB.trans k1
 clear eb1 z1
 refine ow_g (g_as rfl) rfl (ow_nil (tw_seq (tw_region (ow_g (g_ldab (cs' := [_, _, _, _, _]) ag26 ty26 rfl hb1 rfl rfl) rfl ?_))))
 refine ow_g (g_blda (idx := []) (xs := []) (vs := []) (css := []) (out := [.int .u64 0, .int .u64 0, .int .u64 0, .int .u64 0, .int .u64 0]) Try.underlying26 ty24 ty26 (arr_pls 5 1) rfl rfl trivial rfl rfl) rfl ?_
 refine ow_d (d_call (vs := [_, _]) rfl (same_any _ _ _ _ hf el_zero _)) rfl ?_
 rintro _ w2 ⟨rfl, k2⟩
 replace hb1 := hb1.keep0 k2
 replace hB := hB.trans k2
 refine ow_g (g_as rfl) rfl (ow_nil (tw_ret1 hfin Try.results85 rfl ?_))
 exact ⟨rfl, hB⟩
set_option maxRecDepth 100000 in
set_option maxHeartbeats 1000000 in
theorem nplus_any (f g : Nat → Int) (a b : Fp) (hf : El f a) (hg : El g b) (w : World) : Rets Try.prog 41 [.agg (iv .u64 5 f).toArray, .agg (iv .u64 5 g).toArray] w (fun v w' => ∃ h, v = .agg (iv .u64 5 h).toArray ∧ El h (a + b) ∧ Keep [] w w') := by
 have hB : Keep [] w w := Keep.refl _ _
 refine rets_of_tw Try.func41 rfl (by decide) Try.ntmps41 rfl (fun fin _ hfin => ?_)
 refine tw_seq (tw_region (ow_d (d_box (cs := [.int .u64 (f 0), .int .u64 (f 1), .int .u64 (f 2), .int .u64 (f 3), .int .u64 (f 4)]) rfl rfl) rfl ?_))
 rintro _ w1 ⟨b1, rfl, eb1, hb1, k1, z1⟩
 have ge_b1 : w.heap.size ≤ b1 := by have := hB.size; omega
 replace hB := hB.trans k1
 clear eb1 z1
 refine ow_d (d_box (cs := [.int .u64 (g 0), .int .u64 (g 1), .int .u64 (g 2), .int .u64 (g 3), .int .u64 (g 4)]) rfl rfl) rfl ?_
 rintro _ w2 ⟨b2, rfl, eb2, hb2, k2, z2⟩
 have ge_b2 : w.heap.size ≤ b2 := by have := hB.size; omega
 have ne_b1_b2 : b1 ≠ b2 := by have := hb1.lt; omega
 replace hb1 := hb1.keep0 k2
 replace hB := hB.trans k2
 clear eb2 z2
 refine ow_d (d_alloc ty28) rfl ?_
 rintro _ w3 ⟨b3, rfl, eb3, hb3, k3, z3⟩
 have ge_b3 : w.heap.size ≤ b3 := by have := hB.size; omega
 have ne_b1_b3 : b1 ≠ b3 := by have := hb1.lt; omega
 have ne_b2_b3 : b2 ≠ b3 := by have := hb2.lt; omega
 replace hb1 := hb1.keep0 k3
 replace hb2 := hb2.keep0 k3
 replace hB := hB.trans k3
 clear eb3 z3
 refine ow_nil (tw_seq (tw_region (ow_g (g_fa Try.underlying28 rfl ty26 (by decide) rfl) rfl ?_)))
 refine ow_g (g_ldab (cs' := [_, _, _, _, _]) ag26 ty26 rfl hb1 rfl rfl) rfl ?_
 refine ow_g (g_fa Try.underlying28 rfl ty26 (by decide) rfl) rfl ?_
 refine ow_g (g_ldab (cs' := [_, _, _, _, _]) ag26 ty26 rfl hb2 rfl rfl) rfl ?_
 refine ow_d (d_call (vs := [_, _]) rfl (add_any _ _ _ _ hf hg _)) rfl ?_
 rintro _ w4 ⟨hh1, rfl, E1, k4⟩
 replace hb1 := hb1.keep0 k4
 replace hb2 := hb2.keep0 k4
 replace hb3 := hb3.keep0 k4
 replace hB := hB.trans k4
 refine ow_g (g_bld (idx := [0]) (xs := [.tmp 9]) (vs := [_]) (css := [[_, _, _, _, _]]) (out := [_, _, _, _, _]) pl28 ty28 rfl rfl ⟨rfl, trivial⟩ rfl rfl) rfl ?_
 refine ow_d0 (d_sta ty28 rfl rfl rfl (by simp only [List.forall_mem_cons]; refine ⟨rfl, rfl, rfl, rfl, rfl, fun v hv => by cases hv⟩) hb3 rfl) ?_
 rintro _ w5 ⟨hb4, k5, z4⟩
 replace hb1 := hb1.keep k5 (fun hm => absurd (List.mem_singleton.1 hm) ne_b1_b3)
 replace hb2 := hb2.keep k5 (fun hm => absurd (List.mem_singleton.1 hm) ne_b2_b3)
 replace hB := hB.new k5 (fun x hx => .inl ((List.mem_singleton.1 hx) ▸ ge_b3))
 clear z4
 replace hb4 : Bk w5 b3 _ [.int .u64 (hh1 0), .int .u64 (hh1 1), .int .u64 (hh1 2), .int .u64 (hh1 3), .int .u64 (hh1 4)] := hb4
 refine ow_nil (tw_keep [(4, _)] ⟨rfl, trivial⟩ ?_)
 refine tw_retc hfin Try.results41 rfl (run_loadAgg ag28 ty28 ‹_› rfl)  ?_
 exact ⟨hh1, rfl, E1, hB⟩
set_option maxRecDepth 100000 in
set_option maxHeartbeats 1000000 in
theorem nminus_any (f g : Nat → Int) (a b : Fp) (hf : El f a) (hg : El g b) (w : World) : Rets Try.prog 39 [.agg (iv .u64 5 f).toArray, .agg (iv .u64 5 g).toArray] w (fun v w' => ∃ h, v = .agg (iv .u64 5 h).toArray ∧ El h (a - b) ∧ Keep [] w w') := by
 have hB : Keep [] w w := Keep.refl _ _
 refine rets_of_tw Try.func39 rfl (by decide) Try.ntmps39 rfl (fun fin _ hfin => ?_)
 refine tw_seq (tw_region (ow_d (d_box (cs := [.int .u64 (f 0), .int .u64 (f 1), .int .u64 (f 2), .int .u64 (f 3), .int .u64 (f 4)]) rfl rfl) rfl ?_))
 rintro _ w1 ⟨b1, rfl, eb1, hb1, k1, z1⟩
 have ge_b1 : w.heap.size ≤ b1 := by have := hB.size; omega
 replace hB := hB.trans k1
 clear eb1 z1
 refine ow_d (d_box (cs := [.int .u64 (g 0), .int .u64 (g 1), .int .u64 (g 2), .int .u64 (g 3), .int .u64 (g 4)]) rfl rfl) rfl ?_
 rintro _ w2 ⟨b2, rfl, eb2, hb2, k2, z2⟩
 have ge_b2 : w.heap.size ≤ b2 := by have := hB.size; omega
 have ne_b1_b2 : b1 ≠ b2 := by have := hb1.lt; omega
 replace hb1 := hb1.keep0 k2
 replace hB := hB.trans k2
 clear eb2 z2
 refine ow_d (d_alloc ty28) rfl ?_
 rintro _ w3 ⟨b3, rfl, eb3, hb3, k3, z3⟩
 have ge_b3 : w.heap.size ≤ b3 := by have := hB.size; omega
 have ne_b1_b3 : b1 ≠ b3 := by have := hb1.lt; omega
 have ne_b2_b3 : b2 ≠ b3 := by have := hb2.lt; omega
 replace hb1 := hb1.keep0 k3
 replace hb2 := hb2.keep0 k3
 replace hB := hB.trans k3
 clear eb3 z3
 refine ow_nil (tw_seq (tw_region (ow_g (g_fa Try.underlying28 rfl ty26 (by decide) rfl) rfl ?_)))
 refine ow_g (g_ldab (cs' := [_, _, _, _, _]) ag26 ty26 rfl hb1 rfl rfl) rfl ?_
 refine ow_g (g_fa Try.underlying28 rfl ty26 (by decide) rfl) rfl ?_
 refine ow_g (g_ldab (cs' := [_, _, _, _, _]) ag26 ty26 rfl hb2 rfl rfl) rfl ?_
 refine ow_d (d_call (vs := [_, _]) rfl (sub_any _ _ _ _ hf hg _)) rfl ?_
 rintro _ w4 ⟨hh1, rfl, E1, k4⟩
 replace hb1 := hb1.keep0 k4
 replace hb2 := hb2.keep0 k4
 replace hb3 := hb3.keep0 k4
 replace hB := hB.trans k4
 refine ow_g (g_bld (idx := [0]) (xs := [.tmp 9]) (vs := [_]) (css := [[_, _, _, _, _]]) (out := [_, _, _, _, _]) pl28 ty28 rfl rfl ⟨rfl, trivial⟩ rfl rfl) rfl ?_
 refine ow_d0 (d_sta ty28 rfl rfl rfl (by simp only [List.forall_mem_cons]; refine ⟨rfl, rfl, rfl, rfl, rfl, fun v hv => by cases hv⟩) hb3 rfl) ?_
 rintro _ w5 ⟨hb4, k5, z4⟩
 replace hb1 := hb1.keep k5 (fun hm => absurd (List.mem_singleton.1 hm) ne_b1_b3)
 replace hb2 := hb2.keep k5 (fun hm => absurd (List.mem_singleton.1 hm) ne_b2_b3)
 replace hB := hB.new k5 (fun x hx => .inl ((List.mem_singleton.1 hx) ▸ ge_b3))
 clear z4
 replace hb4 : Bk w5 b3 _ [.int .u64 (hh1 0), .int .u64 (hh1 1), .int .u64 (hh1 2), .int .u64 (hh1 3), .int .u64 (hh1 4)] := hb4
 refine ow_nil (tw_keep [(4, _)] ⟨rfl, trivial⟩ ?_)
 refine tw_retc hfin Try.results39 rfl (run_loadAgg ag28 ty28 ‹_› rfl)  ?_
 exact ⟨hh1, rfl, E1, hB⟩
set_option maxRecDepth 100000 in
set_option maxHeartbeats 1000000 in
theorem ntimes_any (f g : Nat → Int) (a b : Fp) (hf : El f a) (hg : El g b) (w : World) : Rets Try.prog 37 [.agg (iv .u64 5 f).toArray, .agg (iv .u64 5 g).toArray] w (fun v w' => ∃ h, v = .agg (iv .u64 5 h).toArray ∧ El h (a * b) ∧ Keep [] w w') := by
 have hB : Keep [] w w := Keep.refl _ _
 refine rets_of_tw Try.func37 rfl (by decide) Try.ntmps37 rfl (fun fin _ hfin => ?_)
 refine tw_seq (tw_region (ow_d (d_box (cs := [.int .u64 (f 0), .int .u64 (f 1), .int .u64 (f 2), .int .u64 (f 3), .int .u64 (f 4)]) rfl rfl) rfl ?_))
 rintro _ w1 ⟨b1, rfl, eb1, hb1, k1, z1⟩
 have ge_b1 : w.heap.size ≤ b1 := by have := hB.size; omega
 replace hB := hB.trans k1
 clear eb1 z1
 refine ow_d (d_box (cs := [.int .u64 (g 0), .int .u64 (g 1), .int .u64 (g 2), .int .u64 (g 3), .int .u64 (g 4)]) rfl rfl) rfl ?_
 rintro _ w2 ⟨b2, rfl, eb2, hb2, k2, z2⟩
 have ge_b2 : w.heap.size ≤ b2 := by have := hB.size; omega
 have ne_b1_b2 : b1 ≠ b2 := by have := hb1.lt; omega
 replace hb1 := hb1.keep0 k2
 replace hB := hB.trans k2
 clear eb2 z2
 refine ow_d (d_alloc ty28) rfl ?_
 rintro _ w3 ⟨b3, rfl, eb3, hb3, k3, z3⟩
 have ge_b3 : w.heap.size ≤ b3 := by have := hB.size; omega
 have ne_b1_b3 : b1 ≠ b3 := by have := hb1.lt; omega
 have ne_b2_b3 : b2 ≠ b3 := by have := hb2.lt; omega
 replace hb1 := hb1.keep0 k3
 replace hb2 := hb2.keep0 k3
 replace hB := hB.trans k3
 clear eb3 z3
 refine ow_nil (tw_seq (tw_region (ow_g (g_fa Try.underlying28 rfl ty26 (by decide) rfl) rfl ?_)))
 refine ow_g (g_ldab (cs' := [_, _, _, _, _]) ag26 ty26 rfl hb1 rfl rfl) rfl ?_
 refine ow_g (g_fa Try.underlying28 rfl ty26 (by decide) rfl) rfl ?_
 refine ow_g (g_ldab (cs' := [_, _, _, _, _]) ag26 ty26 rfl hb2 rfl rfl) rfl ?_
 refine ow_d (d_call (vs := [_, _]) rfl (mul_any _ _ _ _ hf hg _)) rfl ?_
 rintro _ w4 ⟨hh1, rfl, E1, k4⟩
 replace hb1 := hb1.keep0 k4
 replace hb2 := hb2.keep0 k4
 replace hb3 := hb3.keep0 k4
 replace hB := hB.trans k4
 refine ow_g (g_bld (idx := [0]) (xs := [.tmp 9]) (vs := [_]) (css := [[_, _, _, _, _]]) (out := [_, _, _, _, _]) pl28 ty28 rfl rfl ⟨rfl, trivial⟩ rfl rfl) rfl ?_
 refine ow_d0 (d_sta ty28 rfl rfl rfl (by simp only [List.forall_mem_cons]; refine ⟨rfl, rfl, rfl, rfl, rfl, fun v hv => by cases hv⟩) hb3 rfl) ?_
 rintro _ w5 ⟨hb4, k5, z4⟩
 replace hb1 := hb1.keep k5 (fun hm => absurd (List.mem_singleton.1 hm) ne_b1_b3)
 replace hb2 := hb2.keep k5 (fun hm => absurd (List.mem_singleton.1 hm) ne_b2_b3)
 replace hB := hB.new k5 (fun x hx => .inl ((List.mem_singleton.1 hx) ▸ ge_b3))
 clear z4
 replace hb4 : Bk w5 b3 _ [.int .u64 (hh1 0), .int .u64 (hh1 1), .int .u64 (hh1 2), .int .u64 (hh1 3), .int .u64 (hh1 4)] := hb4
 refine ow_nil (tw_keep [(4, _)] ⟨rfl, trivial⟩ ?_)
 refine tw_retc hfin Try.results37 rfl (run_loadAgg ag28 ty28 ‹_› rfl)  ?_
 exact ⟨hh1, rfl, E1, hB⟩
set_option maxRecDepth 100000 in
set_option maxHeartbeats 1000000 in
theorem ninverse_any (f : Nat → Int) (a : Fp) (hf : El f a) (w : World) : Rets Try.prog 55 [.agg (iv .u64 5 f).toArray] w (fun v w' => ∃ h, v = .agg (iv .u64 5 h).toArray ∧ El h (inv a) ∧ Keep [] w w') := by
 have hB : Keep [] w w := Keep.refl _ _
 refine rets_of_tw Try.func55 rfl (by decide) Try.ntmps55 rfl (fun fin _ hfin => ?_)
 refine tw_seq (tw_region (ow_d (d_box (cs := [.int .u64 (f 0), .int .u64 (f 1), .int .u64 (f 2), .int .u64 (f 3), .int .u64 (f 4)]) rfl rfl) rfl ?_))
 rintro _ w1 ⟨b1, rfl, eb1, hb1, k1, z1⟩
 have ge_b1 : w.heap.size ≤ b1 := by have := hB.size; omega
 replace hB := hB.trans k1
 clear eb1 z1
 refine ow_d (d_alloc ty28) rfl ?_
 rintro _ w2 ⟨b2, rfl, eb2, hb2, k2, z2⟩
 have ge_b2 : w.heap.size ≤ b2 := by have := hB.size; omega
 have ne_b1_b2 : b1 ≠ b2 := by have := hb1.lt; omega
 replace hb1 := hb1.keep0 k2
 replace hB := hB.trans k2
 clear eb2 z2
 refine ow_nil (tw_seq (tw_region (ow_g (g_fa Try.underlying28 rfl ty26 (by decide) rfl) rfl ?_)))
 refine ow_g (g_ldab (cs' := [_, _, _, _, _]) ag26 ty26 rfl hb1 rfl rfl) rfl ?_
 refine ow_d (d_call (vs := [_]) rfl (inv_any _ _ hf _)) rfl ?_
 rintro _ w3 ⟨hh1, rfl, E1, k3⟩
 replace hb1 := hb1.keep0 k3
 replace hb2 := hb2.keep0 k3
 replace hB := hB.trans k3
 refine ow_g (g_bld (idx := [0]) (xs := [.tmp 5]) (vs := [_]) (css := [[_, _, _, _, _]]) (out := [_, _, _, _, _]) pl28 ty28 rfl rfl ⟨rfl, trivial⟩ rfl rfl) rfl ?_
 refine ow_d0 (d_sta ty28 rfl rfl rfl (by simp only [List.forall_mem_cons]; refine ⟨rfl, rfl, rfl, rfl, rfl, fun v hv => by cases hv⟩) hb2 rfl) ?_
 rintro _ w4 ⟨hb3, k4, z3⟩
 replace hb1 := hb1.keep k4 (fun hm => absurd (List.mem_singleton.1 hm) ne_b1_b2)
 replace hB := hB.new k4 (fun x hx => .inl ((List.mem_singleton.1 hx) ▸ ge_b2))
 clear z3
 replace hb3 : Bk w4 b2 _ [.int .u64 (hh1 0), .int .u64 (hh1 1), .int .u64 (hh1 2), .int .u64 (hh1 3), .int .u64 (hh1 4)] := hb3
 refine ow_nil (tw_retc hfin Try.results55 rfl (run_loadAgg ag28 ty28 ‹_› rfl)  ?_)
 exact ⟨hh1, rfl, E1, hB⟩
set_option maxRecDepth 100000 in
set_option maxHeartbeats 1000000 in
theorem nbytes_any (f : Nat → Int) (a : Fp) (hf : El f a) (w : World) : Rets Try.prog 35 [.agg (iv .u64 5 f).toArray] w (fun v w' => OwnB w' w.heap.size v (fpB a) ∧ Keep [] w w') := by
 have hB : Keep [] w w := Keep.refl _ _
 refine rets_of_tw Try.func35 rfl (by decide) Try.ntmps35 rfl (fun fin _ hfin => ?_)
 refine tw_seq (tw_region (ow_d (d_box (cs := [.int .u64 (f 0), .int .u64 (f 1), .int .u64 (f 2), .int .u64 (f 3), .int .u64 (f 4)]) rfl rfl) rfl ?_))
 rintro _ w1 ⟨b1, rfl, eb1, hb1, k1, z1⟩
 have ge_b1 : w.heap.size ≤ b1 := by have := hB.size; omega
 replace hB := hB.trans k1
 clear eb1 z1
 refine ow_g (g_as rfl) rfl (ow_nil (tw_seq (tw_region (ow_g (g_fa Try.underlying28 rfl ty26 (by decide) rfl) rfl ?_))))
 refine ow_g (g_ldab (cs' := [_, _, _, _, _]) ag26 ty26 rfl hb1 rfl rfl) rfl ?_
 refine ow_d (d_call (vs := [_]) rfl (put_any _ _ hf _)) rfl ?_
 rintro v1 w2 ⟨o1, k2⟩
 have gl_o1 := hB.size
 have sb_b1_o1 := fun x hx => (show x ≠ b1 from by have h1 := (o1.blk x hx).1; have h2 := hb1.lt; omega)
 replace hb1 := hb1.keep0 k2
 replace hB := hB.trans k2
 have u_o1 := o1.blk
 refine ow_g (g_as rfl) rfl (ow_nil (tw_ret1 hfin Try.results35 rfl ?_))
 exact ⟨o1.lo gl_o1, hB⟩
end Go.Proofs.Ytkngeapegpehpaa.W
namespace Go.Proofs.Ytkngeapegpehpaa.W
open Go Go.Eng Go.Byt
set_option linter.unusedVariables false
set_option linter.unusedSimpArgs false
open Go.Fld Go.Ed
set_option maxRecDepth 100000 in
set_option maxHeartbeats 1000000 in
theorem small_any (n : Int) (hn : In n 0 18446744073709551615) (w : World) : Rets Try.prog 69 [.int .u64 n] w (fun v w' => ∃ h, v = .agg (iv .u64 5 h).toArray ∧ El h (fp n) ∧ Keep [] w w') := by
 have hB : Keep [] w w := Keep.refl _ _
 refine rets_of_tw Try.func69 rfl (by decide) Try.ntmps69 rfl (fun fin _ hfin => ?_)
 refine tw_seq (tw_region (ow_d (d_alloc ty28) rfl ?_))
 rintro _ w1 ⟨b1, rfl, eb1, hb1, k1, z1⟩
 have ge_b1 : w.heap.size ≤ b1 := by have := hB.size; omega
 replace hB := hB.trans k1
 clear eb1 z1
 refine ow_nil (tw_seq (tw_region (ow_g (g_mv rfl) rfl (ow_gx (e' := n % 2251799813685248) (lo := 0) (hi := 2251799813685247) (g_and rfl rfl) (and_mod 51 hn rfl rfl rfl rfl rfl rfl) (In.wk (in_mod _ (by decide)) rfl) rfl (fun z2 h1 r1 => ?_)))))
 refine ow_g (g_mv rfl) rfl (ow_gx (e' := n / 2251799813685248) (lo := 0) (hi := 8191) (g_shrp (m := 2251799813685248) rfl rfl (by decide) rfl) (rfl) (In.wk (in_div hn (by decide)) rfl) rfl (fun z3 h2 r2 => ?_))
 refine ow_g (g_blda (idx := [0, 1]) (xs := [.tmp 4, .tmp 6]) (vs := [_, _]) (css := [[.int .u64 z2], [.int .u64 z3]]) (out := [.int .u64 z2, .int .u64 z3, .int .u64 0, .int .u64 0, .int .u64 0]) Try.underlying26 ty24 ty26 (arr_pls 5 1) rfl rfl ⟨rfl, rfl, trivial⟩ rfl rfl) rfl ?_
 refine ow_g (g_bld (idx := [0]) (xs := [.tmp 7]) (vs := [_]) (css := [[_, _, _, _, _]]) (out := [_, _, _, _, _]) pl28 ty28 rfl rfl ⟨rfl, trivial⟩ rfl rfl) rfl ?_
 refine ow_d0 (d_sta ty28 rfl rfl rfl (by simp only [List.forall_mem_cons]; refine ⟨rfl, rfl, rfl, rfl, rfl, fun v hv => by cases hv⟩) hb1 rfl) ?_
 rintro _ w2 ⟨hb2, k2, z4⟩
 replace hB := hB.new k2 (fun x hx => .inl ((List.mem_singleton.1 hx) ▸ ge_b1))
 clear z4
 replace hb2 : Bk w2 b1 _ [.int .u64 z2, .int .u64 z3, .int .u64 0, .int .u64 0, .int .u64 0] := hb2
 refine ow_nil (tw_retc hfin Try.results69 rfl (run_loadAgg ag28 ty28 ‹_› rfl)  ?_)
 simp only [Eqn, In] at h1 r1 h2 r2 hn
 exact ⟨(vecN [z2, z3, 0, 0, 0]), rfl, ⟨by show In z2 _ _; unfold In; omega, by show In z3 _ _; unfold In; omega, (by show In 0 _ _; decide), (by show In 0 _ _; decide), (by show In 0 _ _; decide), by refine (fp_eq (b := n) 0 ?_); show z2 + z3 * 2251799813685248 + 0 * _ + 0 * _ + 0 * _ = _; omega⟩, hB⟩
set_option maxRecDepth 100000 in
set_option maxHeartbeats 1000000 in
theorem Small_any (n : Int) (hn : In n 0 9223372036854775807) (w : World) : Rets Try.prog 36 [.int .i64 n] w (fun v w' => ∃ h, v = .agg (iv .u64 5 h).toArray ∧ El h (fp n) ∧ Keep [] w w') := by
 have hB : Keep [] w w := Keep.refl _ _
 refine rets_of_tw Try.func36 rfl (by decide) Try.ntmps36 rfl (fun fin _ hfin => ?_)
 refine tw_seq (tw_region (ow_d (d_alloc ty28) rfl ?_))
 rintro _ w1 ⟨b1, rfl, eb1, hb1, k1, z1⟩
 have ge_b1 : w.heap.size ≤ b1 := by have := hB.size; omega
 replace hB := hB.trans k1
 clear eb1 z1
 refine ow_nil (tw_seq (tw_seq (tw_region (ow_g (g_mv rfl) rfl (ow_g (g_lt rfl rfl) rfl ?_)))))
 refine ow_nil (tw_ifF rfl (by have := hn.1; omega) ?_)
 refine tw_skip (tw_seq (tw_region (ow_g (g_mv rfl) rfl (ow_gx (e' := n) (lo := 0) (hi := 9223372036854775807) (g_cv (by rw [Try.underlying3]; rfl) Try.underlying24 rfl) (wrap_fit hn rfl) (hn) rfl (fun z2 h1 r1 => ?_)))))
 refine ow_d (d_call (vs := [_]) rfl (small_any _ (In.wk r1 rfl) _)) rfl ?_
 rintro _ w2 ⟨hh1, rfl, E1, k2⟩
 replace hb1 := hb1.keep0 k2
 replace hB := hB.trans k2
 refine ow_d0 (d_sta ty28 rfl rfl rfl ivF_one hb1 rfl) ?_
 rintro _ w3 ⟨hb2, k3, z3⟩
 replace hB := hB.new k3 (fun x hx => .inl ((List.mem_singleton.1 hx) ▸ ge_b1))
 clear z3
 replace hb2 : Bk w3 b1 _ [.int .u64 (hh1 0), .int .u64 (hh1 1), .int .u64 (hh1 2), .int .u64 (hh1 3), .int .u64 (hh1 4)] := hb2
 refine ow_nil (tw_retc hfin Try.results36 rfl (run_loadAgg ag28 ty28 ‹_› rfl)  ?_)
 exact ⟨hh1, rfl, (by have e : z2 = n := (by unfold Eqn at *; assumption); rw [e] at E1; exact E1), hB⟩
set_option maxRecDepth 100000 in
set_option maxHeartbeats 1000000 in
theorem from_any (v : Value) (xs : List UInt8) (w : World) (hv : RdB w v xs) (hx : xs.length = 32) : Rets Try.prog 33 [v] w (fun v w' => ∃ h, v = .tuple #[.agg (iv .u64 5 h).toArray, .int .i64 0] ∧ El h (fp (leI xs)) ∧ Keep [] w w') := by
 have hB : Keep [] w w := Keep.refl _ _
 refine rets_of_tw Try.func33 rfl (by decide) Try.ntmps33 rfl (fun fin _ hfin => ?_)
 refine tw_seq (tw_region (ow_d (d_alloc ty28) rfl ?_))
 rintro _ w1 ⟨b1, rfl, eb1, hb1, k1, z1⟩
 have ge_b1 : w.heap.size ≤ b1 := by have := hB.size; omega
 replace hB := hB.trans k1
 clear eb1 z1
 refine ow_g (g_as rfl) rfl (ow_nil (tw_seq (tw_seq (tw_region (ow_g (g_mv rfl) rfl (ow_g (g_len Try.underlying22 rfl (by first | assumption | exact Own.rd ‹_› | exact Rd.keep0 ‹_› hB | exact Own.rd (Own.keep0 ‹_› hB))) rfl ?_))))))
 refine ow_g (g_ne rfl rfl) rfl ?_
 refine ow_nil (tw_ifF rfl (by omega) ?_)
 refine tw_skip (tw_seq (tw_region (ow_g (g_mv rfl) rfl (ow_d (d_call (vs := [_]) rfl (get_any _ xs _ (by first | assumption | exact Own.rd ‹_› | exact Rd.keep0 ‹_› hB | exact Own.rd (Own.keep0 ‹_› hB)) hx)) rfl ?_))))
 rintro _ w2 ⟨hh1, rfl, E1, k2⟩
 replace hb1 := hb1.keep0 k2
 replace hB := hB.trans k2
 refine ow_g (g_bld (idx := [0]) (xs := [.tmp 9]) (vs := [_]) (css := [[_, _, _, _, _]]) (out := [_, _, _, _, _]) pl28 ty28 rfl rfl ⟨rfl, trivial⟩ rfl rfl) rfl ?_
 refine ow_d0 (d_sta ty28 rfl rfl rfl (by simp only [List.forall_mem_cons]; refine ⟨rfl, rfl, rfl, rfl, rfl, fun v hv => by cases hv⟩) hb1 rfl) ?_
 rintro _ w3 ⟨hb2, k3, z2⟩
 replace hB := hB.new k3 (fun x hx => .inl ((List.mem_singleton.1 hx) ▸ ge_b1))
 clear z2
 replace hb2 : Bk w3 b1 _ [.int .u64 (hh1 0), .int .u64 (hh1 1), .int .u64 (hh1 2), .int .u64 (hh1 3), .int .u64 (hh1 4)] := hb2
 refine ow_g (g_as rfl) rfl (ow_nil (tw_retct hfin Try.results33 rfl (run_loadAgg ag28 ty28 ‹_› rfl) rfl ?_))
 exact ⟨hh1, rfl, E1, hB⟩
def root0 (q : Fp) : Fp := fpow q 7237005577332262213973186563042994240829374041602535252466099000494570602494
def root1 (q : Fp) : Fp := if root0 q * root0 q = q then root0 q else root0 q * fpow 2 14474011154664524427946373126085988481658748083205070504932198000989141204987
def rootOk (u v : Fp) : Bool := decide (root1 (u * inv v) * root1 (u * inv v) = u * inv v) && !(decide (v = 0) && !decide (u = 0))
def oddF (x : Fp) : Prop := x.val % 2 = 1
instance (x : Fp) : Decidable (oddF x) := inferInstanceAs (Decidable (x.val % 2 = 1))
def rootF (u v : Fp) : Fp := bif rootOk u v then (if oddF (root1 (u * inv v)) then 0 - root1 (u * inv v) else root1 (u * inv v)) else 0
theorem root1_T {q : Fp} (h : ¬ fpow q 7237005577332262213973186563042994240829374041602535252466099000494570602494 * fpow q 7237005577332262213973186563042994240829374041602535252466099000494570602494 = q) : root1 q = fpow q 7237005577332262213973186563042994240829374041602535252466099000494570602494 * fpow 2 14474011154664524427946373126085988481658748083205070504932198000989141204987 := if_neg h
theorem root1_F {q : Fp} (h : ¬¬ fpow q 7237005577332262213973186563042994240829374041602535252466099000494570602494 * fpow q 7237005577332262213973186563042994240829374041602535252466099000494570602494 = q) : root1 q = fpow q 7237005577332262213973186563042994240829374041602535252466099000494570602494 := if_pos (Decidable.of_not_not h)
theorem rootS_F {a b r : Fp} (hr : root1 (a * inv b) = r) (h : (decide ¬ r * r = a * inv b || decide (b = 0) && decide ¬ a = 0) = true) : rootOk a b = false := by
  subst hr
  unfold rootOk
  by_cases h1 : root1 (a * inv b) * root1 (a * inv b) = a * inv b
  · by_cases h2 : b = 0
    · by_cases h3 : a = 0
      · rw [decide_eq_false (not_not_intro h1), decide_eq_true h2, decide_eq_false (not_not_intro h3)] at h; cases h
      · rw [decide_eq_true h1, decide_eq_true h2, decide_eq_false h3]; rfl
    · rw [decide_eq_false (not_not_intro h1), decide_eq_false h2] at h; cases h
  · rw [decide_eq_false h1]; rfl
theorem rootS_T {a b r : Fp} (hr : root1 (a * inv b) = r) (h : (decide ¬ r * r = a * inv b || decide (b = 0) && decide ¬ a = 0) = false) : rootOk a b = true := by
  subst hr
  unfold rootOk
  by_cases h1 : root1 (a * inv b) * root1 (a * inv b) = a * inv b
  · by_cases h2 : b = 0
    · by_cases h3 : a = 0
      · rw [decide_eq_true h1, decide_eq_true h2, decide_eq_true h3]; rfl
      · rw [decide_eq_true h2, decide_eq_true h3, Bool.and_self, Bool.or_true] at h; cases h
    · rw [decide_eq_true h1, decide_eq_false h2]; rfl
  · rw [decide_eq_true h1] at h; cases h
theorem odd0 (x : Fp) : bits .and .u8 (gb (fpB x) 0) 1 = 1 ↔ oddF x := by
  have g := gb_range (fpB x) 0
  rw [and_mod (k := .u8) (a := 0) (b := 255) 1 (c := 1) (m := 2) g rfl rfl rfl rfl rfl rfl]
  have e : gb (fpB x) 0 = (x.val : Int) % 256 := by
    show (((UInt8.ofNat ((x.val : Int) % 256).toNat).toNat : Nat) : Int) = _
    have : (UInt8.ofNat ((x.val : Int) % 256).toNat).toNat = ((x.val : Int) % 256).toNat := by simp; omega
    rw [this]; omega
  rw [e]; unfold oddF; omega
theorem rootF_F {a b : Fp} (h : rootOk a b = false) : rootF a b = 0 := by unfold rootF; rw [h]; rfl
theorem rootF_odd {a b r : Fp} (h : rootOk a b = true) (hr : root1 (a * inv b) = r) (ho : bits .and .u8 (gb (fpB r) 0) 1 = 1) : rootF a b = 0 - r := by
  subst hr; unfold rootF; rw [h, cond_true, if_pos ((odd0 _).mp ho)]
theorem rootF_even {a b r : Fp} (h : rootOk a b = true) (hr : root1 (a * inv b) = r) (ho : ¬ bits .and .u8 (gb (fpB r) 0) 1 = 1) : rootF a b = r := by
  subst hr; unfold rootF; rw [h, cond_true, if_neg (fun c => ho ((odd0 _).mpr c))]
set_option maxRecDepth 100000 in
set_option maxHeartbeats 1000000 in
theorem root_any (f g : Nat → Int) (a b : Fp) (hf : El f a) (hg : El g b) (w : World) : Rets Try.prog 71 [.agg (iv .u64 5 f).toArray, .agg (iv .u64 5 g).toArray] w (fun v w' => ∃ h, v = .tuple #[.agg (iv .u64 5 h).toArray, .bool (rootOk a b)] ∧ El h (rootF a b) ∧ Keep [] w w') := by
 have hB : Keep [] w w := Keep.refl _ _
 refine rets_of_tw Try.func71 rfl (by decide) Try.ntmps71 rfl (fun fin _ hfin => ?_)
 refine tw_seq (tw_region (ow_d (d_box (cs := [.int .u64 (f 0), .int .u64 (f 1), .int .u64 (f 2), .int .u64 (f 3), .int .u64 (f 4)]) rfl rfl) rfl ?_))
 rintro _ w1 ⟨b1, rfl, eb1, hb1, k1, z1⟩
 have ge_b1 : w.heap.size ≤ b1 := by have := hB.size; omega
 replace hB := hB.trans k1
 clear eb1 z1
 refine ow_d (d_box (cs := [.int .u64 (g 0), .int .u64 (g 1), .int .u64 (g 2), .int .u64 (g 3), .int .u64 (g 4)]) rfl rfl) rfl ?_
 rintro _ w2 ⟨b2, rfl, eb2, hb2, k2, z2⟩
 have ge_b2 : w.heap.size ≤ b2 := by have := hB.size; omega
 have ne_b1_b2 : b1 ≠ b2 := by have := hb1.lt; omega
 replace hb1 := hb1.keep0 k2
 replace hB := hB.trans k2
 clear eb2 z2
 refine ow_d (d_alloc ty26) rfl ?_
 rintro _ w3 ⟨b3, rfl, eb3, hb3, k3, z3⟩
 have ge_b3 : w.heap.size ≤ b3 := by have := hB.size; omega
 have ne_b1_b3 : b1 ≠ b3 := by have := hb1.lt; omega
 have ne_b2_b3 : b2 ≠ b3 := by have := hb2.lt; omega
 replace hb1 := hb1.keep0 k3
 replace hb2 := hb2.keep0 k3
 replace hB := hB.trans k3
 clear eb3 z3
 refine ow_g (g_as rfl) rfl (ow_nil (tw_seq ?_))
 have gs1 := hB.size
 have lt1 := hb1.lt
 have lt2 := hb2.lt
 have lt3 := hb3.lt
 refine tw_planA 5 [0, 1, 2, 3] [2, 3] [] [(4, 26, [.int .u64 0, .int .u64 0, .int .u64 0, .int .u64 0, .int .u64 0])] mixed [(2, _), (3, _), (4, _)] ⟨rfl, rfl, rfl, trivial⟩ (by decide +kernel) (by decide) (by decide) ?_ (fun x hx => by cases hx) rfl (fun w4 k4 => ?_)
 · simp only [List.forall_mem_cons]; exact ⟨⟨_, _, _, _, _, _, rfl, ty26⟩, fun q hq => by cases hq⟩
 replace hb1 := hb1.keep0 k4
 replace hb2 := hb2.keep0 k4
 replace hb3 := hb3.keep0 k4
 replace hB := hB.trans k4
 refine pa_g [(2, _)] rfl rfl ⟨rfl, trivial⟩ rfl (fun W' kk => g_ldab (cs' := [_, _, _, _, _]) ag26 ty26 rfl (Bk.keep0 hb1 kk) rfl rfl) ?_
 refine pa_g [(3, _)] rfl rfl ⟨rfl, trivial⟩ rfl (fun W' kk => g_ldab (cs' := [_, _, _, _, _]) ag26 ty26 rfl (Bk.keep0 hb2 kk) rfl rfl) ?_
 refine pa_d [(9, _)] rfl rfl ⟨rfl, trivial⟩ rfl (fun w6 k6 => ?_)
 replace hb1 := hb1.keep0 k6
 replace hb2 := hb2.keep0 k6
 replace hb3 := hb3.keep0 k6
 replace hB := hB.trans k6
 refine (d_call (vs := [_]) rfl (inv_any _ _ hg _)).mono ?_
 rintro _ w5 ⟨hh1, rfl, E1, k5⟩
 refine ⟨k5, (fun x hx => by have hx : x ∈ ([] : List Nat) := hx; cases hx), ?_⟩
 replace hb1 := hb1.keep0 k5
 replace hb2 := hb2.keep0 k5
 replace hb3 := hb3.keep0 k5
 replace hB := hB.trans k5
 refine pa_d [(8, _), (10, _)] rfl rfl ⟨rfl, rfl, trivial⟩ rfl (fun w8 k8 => ?_)
 replace hb1 := hb1.keep0 k8
 replace hb2 := hb2.keep0 k8
 replace hb3 := hb3.keep0 k8
 replace hB := hB.trans k8
 refine (d_call (vs := [_, _]) rfl (mul_any _ _ _ _ hf E1 _)).mono ?_
 rintro _ w7 ⟨hh2, rfl, E2, k7⟩
 refine ⟨k7, (fun x hx => by have hx : x ∈ ([] : List Nat) := hx; cases hx), ?_⟩
 replace hb1 := hb1.keep0 k7
 replace hb2 := hb2.keep0 k7
 replace hb3 := hb3.keep0 k7
 replace hB := hB.trans k7
 refine pa_nil (fun w9 k9 => ?_)
 replace hb1 := hb1.keep0 k9
 replace hb2 := hb2.keep0 k9
 replace hb3 := hb3.keep0 k9
 replace hB := hB.trans k9
 intro b4 eb4 lb1 hb4 ds1 sp1
 have ge_b4 : w.heap.size ≤ b4 := Nat.le_trans gs1 eb4
 have ne_b1_b4 : b1 ≠ b4 := Nat.ne_of_lt (Nat.lt_of_lt_of_le lt1 eb4)
 have ne_b2_b4 : b2 ≠ b4 := Nat.ne_of_lt (Nat.lt_of_lt_of_le lt2 eb4)
 have ne_b3_b4 : b3 ≠ b4 := Nat.ne_of_lt (Nat.lt_of_lt_of_le lt3 eb4)
 refine fina_nil ?_
 refine ow_d0 (d_sta ty26 rfl rfl rfl ivF_one hb4 rfl) ?_
 rintro _ w10 ⟨hb5, k10, z4⟩
 replace hb1 := hb1.keep k10 (fun hm => absurd (List.mem_singleton.1 hm) ne_b1_b4)
 replace hb2 := hb2.keep k10 (fun hm => absurd (List.mem_singleton.1 hm) ne_b2_b4)
 replace hb3 := hb3.keep k10 (fun hm => absurd (List.mem_singleton.1 hm) ne_b3_b4)
 replace hB := hB.new k10 (fun x hx => .inl ((List.mem_singleton.1 hx) ▸ ge_b4))
 clear z4
 replace hb5 : Bk w10 b4 _ [.int .u64 (hh2 0), .int .u64 (hh2 1), .int .u64 (hh2 2), .int .u64 (hh2 3), .int .u64 (hh2 4)] := hb5
 refine ow_nil (tw_seq (tw_region (ow_g (g_ldab (cs' := [_, _, _, _, _]) ag26 ty26 rfl hb5 rfl rfl) rfl ?_)))
 refine ow_d (d_call (vs := [_]) rfl (eighth_any _ _ E2 _)) rfl ?_
 rintro _ w11 ⟨hh3, rfl, E3, k11⟩
 replace hb1 := hb1.keep0 k11
 replace hb2 := hb2.keep0 k11
 replace hb3 := hb3.keep0 k11
 replace hb5 := hb5.keep0 k11
 replace hB := hB.trans k11
 refine ow_d (d_alloc ty26) rfl ?_
 rintro _ w12 ⟨b5, rfl, eb5, hb6, k12, z5⟩
 have ge_b5 : w.heap.size ≤ b5 := by have := hB.size; omega
 have ne_b1_b5 : b1 ≠ b5 := by have := hb1.lt; omega
 have ne_b2_b5 : b2 ≠ b5 := by have := hb2.lt; omega
 have ne_b3_b5 : b3 ≠ b5 := by have := hb3.lt; omega
 have ne_b4_b5 : b4 ≠ b5 := by have := hb5.lt; omega
 replace hb1 := hb1.keep0 k12
 replace hb2 := hb2.keep0 k12
 replace hb3 := hb3.keep0 k12
 replace hb5 := hb5.keep0 k12
 replace hB := hB.trans k12
 clear eb5 z5
 refine ow_d0 (d_sta ty26 rfl rfl rfl ivF_one hb6 rfl) ?_
 rintro _ w13 ⟨hb7, k13, z6⟩
 replace hb1 := hb1.keep k13 (fun hm => absurd (List.mem_singleton.1 hm) ne_b1_b5)
 replace hb2 := hb2.keep k13 (fun hm => absurd (List.mem_singleton.1 hm) ne_b2_b5)
 replace hb3 := hb3.keep k13 (fun hm => absurd (List.mem_singleton.1 hm) ne_b3_b5)
 replace hb5 := hb5.keep k13 (fun hm => absurd (List.mem_singleton.1 hm) ne_b4_b5)
 replace hB := hB.new k13 (fun x hx => .inl ((List.mem_singleton.1 hx) ▸ ge_b5))
 clear z6
 replace hb7 : Bk w13 b5 _ [.int .u64 (hh3 0), .int .u64 (hh3 1), .int .u64 (hh3 2), .int .u64 (hh3 3), .int .u64 (hh3 4)] := hb7
 refine ow_nil (tw_seq (tw_seq (tw_plan 6 [0, 1, 3, 2, 4, 5] [2, 4] [] mixed [(7, _), (6, _), (2, _), (3, _), (4, _)] ⟨rfl, rfl, rfl, rfl, rfl, trivial⟩ (by decide +kernel) rfl (fun w14 k14 => ?_))))
 replace hb1 := hb1.keep0 k14
 replace hb2 := hb2.keep0 k14
 replace hb3 := hb3.keep0 k14
 replace hb5 := hb5.keep0 k14
 replace hb7 := hb7.keep0 k14
 replace hB := hB.trans k14
 refine pw_g [(7, _)] rfl rfl ⟨rfl, trivial⟩ rfl (fun W' kk => g_ldab (cs' := [_, _, _, _, _]) ag26 ty26 rfl (Bk.keep0 hb7 kk) rfl rfl) ?_
 refine pw_g [(7, _)] rfl rfl ⟨rfl, trivial⟩ rfl (fun W' kk => g_ldab (cs' := [_, _, _, _, _]) ag26 ty26 rfl (Bk.keep0 hb7 kk) rfl rfl) ?_
 refine pw_g [(6, _)] rfl rfl ⟨rfl, trivial⟩ rfl (fun W' kk => g_ldab (cs' := [_, _, _, _, _]) ag26 ty26 rfl (Bk.keep0 hb5 kk) rfl rfl) ?_
 refine pw_d [(14, _), (15, _)] rfl rfl ⟨rfl, rfl, trivial⟩ rfl (d_call (vs := [_, _]) rfl (mul_any _ _ _ _ E3 E3 _)) ?_
 rintro _ w15 ⟨hh4, rfl, E4, k15⟩
 refine ⟨k15, ?_⟩
 replace hb1 := hb1.keep0 k15
 replace hb2 := hb2.keep0 k15
 replace hb3 := hb3.keep0 k15
 replace hb5 := hb5.keep0 k15
 replace hb7 := hb7.keep0 k15
 replace hB := hB.trans k15
 refine pw_d [(16, _), (17, _)] rfl rfl ⟨rfl, rfl, trivial⟩ rfl (d_call (vs := [_, _]) rfl (same_any _ _ _ _ E4 E2 _)) ?_
 rintro _ w16 ⟨rfl, k16⟩
 refine ⟨k16, ?_⟩
 replace hb1 := hb1.keep0 k16
 replace hb2 := hb2.keep0 k16
 replace hb3 := hb3.keep0 k16
 replace hb5 := hb5.keep0 k16
 replace hb7 := hb7.keep0 k16
 replace hB := hB.trans k16
 refine pw_g [(18, _)] rfl rfl ⟨rfl, trivial⟩ rfl (fun W' kk => g_notd rfl) ?_
 refine pw_nil ?_
 refine ow_nil (tw_if rfl (fun hc1 => ?_) (fun hc1 => ?_))
 ·
  refine tw_plan 2 [0, 1] [1] [] mixed [(7, _), (6, _), (2, _), (3, _), (4, _)] ⟨rfl, rfl, rfl, rfl, rfl, trivial⟩ (by decide +kernel) rfl (fun w17 k17 => ?_)
  replace hb1 := hb1.keep0 k17
  replace hb2 := hb2.keep0 k17
  replace hb3 := hb3.keep0 k17
  replace hb5 := hb5.keep0 k17
  replace hb7 := hb7.keep0 k17
  replace hB := hB.trans k17
  refine pw_g [(7, _)] rfl rfl ⟨rfl, trivial⟩ rfl (fun W' kk => g_ldab (cs' := [_, _, _, _, _]) ag26 ty26 rfl (Bk.keep0 hb7 kk) rfl rfl) ?_
  refine pw_d [] rfl rfl trivial rfl (d_call (vs := []) rfl (minus1_any _)) ?_
  rintro _ w18 ⟨hh5, rfl, E5, k18⟩
  refine ⟨k18, ?_⟩
  replace hb1 := hb1.keep0 k18
  replace hb2 := hb2.keep0 k18
  replace hb3 := hb3.keep0 k18
  replace hb5 := hb5.keep0 k18
  replace hb7 := hb7.keep0 k18
  replace hB := hB.trans k18
  refine pw_nil ?_
  refine ow_d (d_call (vs := [_, _]) rfl (mul_any _ _ _ _ E3 E5 _)) rfl ?_
  rintro _ w19 ⟨hh6, rfl, E6, k19⟩
  replace hb1 := hb1.keep0 k19
  replace hb2 := hb2.keep0 k19
  replace hb3 := hb3.keep0 k19
  replace hb5 := hb5.keep0 k19
  replace hb7 := hb7.keep0 k19
  replace hB := hB.trans k19
  refine ow_d0 (d_sta ty26 rfl rfl rfl ivF_one hb7 rfl) ?_
  rintro _ w20 ⟨hb8, k20, z7⟩
  replace hb1 := hb1.keep k20 (fun hm => absurd (List.mem_singleton.1 hm) ne_b1_b5)
  replace hb2 := hb2.keep k20 (fun hm => absurd (List.mem_singleton.1 hm) ne_b2_b5)
  replace hb3 := hb3.keep k20 (fun hm => absurd (List.mem_singleton.1 hm) ne_b3_b5)
  replace hb5 := hb5.keep k20 (fun hm => absurd (List.mem_singleton.1 hm) ne_b4_b5)
  replace hB := hB.new k20 (fun x hx => .inl ((List.mem_singleton.1 hx) ▸ ge_b5))
  clear z7
  replace hb8 : Bk w20 b5 _ [.int .u64 (hh6 0), .int .u64 (hh6 1), .int .u64 (hh6 2), .int .u64 (hh6 3), .int .u64 (hh6 4)] := hb8
  refine ow_nil (tw_seq (tw_seq (tw_planA 15 [0, 1, 3, 2, 4, 5, 6, 7, 8, 9, 10, 11, 12, 13, 14] [2, 4, 8, 11] [] [] mixed [(7, _), (6, _), (3, _), (2, _), (4, _)] ⟨rfl, rfl, rfl, rfl, rfl, trivial⟩ (by decide +kernel) (by decide) (by decide) ?_ (fun x hx => by cases hx) rfl (fun w21 k21 => ?_))))
  · intro q hq; cases hq
  replace hb1 := hb1.keep0 k21
  replace hb2 := hb2.keep0 k21
  replace hb3 := hb3.keep0 k21
  replace hb5 := hb5.keep0 k21
  replace hb8 := hb8.keep0 k21
  replace hB := hB.trans k21
  refine pa_g [(7, _)] rfl rfl ⟨rfl, trivial⟩ rfl (fun W' kk => g_ldab (cs' := [_, _, _, _, _]) ag26 ty26 rfl (Bk.keep0 hb8 kk) rfl rfl) ?_
  refine pa_g [(7, _)] rfl rfl ⟨rfl, trivial⟩ rfl (fun W' kk => g_ldab (cs' := [_, _, _, _, _]) ag26 ty26 rfl (Bk.keep0 hb8 kk) rfl rfl) ?_
  refine pa_g [(6, _)] rfl rfl ⟨rfl, trivial⟩ rfl (fun W' kk => g_ldab (cs' := [_, _, _, _, _]) ag26 ty26 rfl (Bk.keep0 hb5 kk) rfl rfl) ?_
  refine pa_d [(23, _), (24, _)] rfl rfl ⟨rfl, rfl, trivial⟩ rfl (fun w23 k23 => ?_)
  replace hb1 := hb1.keep0 k23
  replace hb2 := hb2.keep0 k23
  replace hb3 := hb3.keep0 k23
  replace hb5 := hb5.keep0 k23
  replace hb8 := hb8.keep0 k23
  replace hB := hB.trans k23
  refine (d_call (vs := [_, _]) rfl (mul_any _ _ _ _ E6 E6 _)).mono ?_
  rintro _ w22 ⟨hh7, rfl, E7, k22⟩
  refine ⟨k22, (fun x hx => by have hx : x ∈ ([] : List Nat) := hx; cases hx), ?_⟩
  replace hb1 := hb1.keep0 k22
  replace hb2 := hb2.keep0 k22
  replace hb3 := hb3.keep0 k22
  replace hb5 := hb5.keep0 k22
  replace hb8 := hb8.keep0 k22
  replace hB := hB.trans k22
  refine pa_d [(25, _), (26, _)] rfl rfl ⟨rfl, rfl, trivial⟩ rfl (fun w25 k25 => ?_)
  replace hb1 := hb1.keep0 k25
  replace hb2 := hb2.keep0 k25
  replace hb3 := hb3.keep0 k25
  replace hb5 := hb5.keep0 k25
  replace hb8 := hb8.keep0 k25
  replace hB := hB.trans k25
  refine (d_call (vs := [_, _]) rfl (same_any _ _ _ _ E7 E2 _)).mono ?_
  rintro _ w24 ⟨rfl, k24⟩
  refine ⟨k24, (fun x hx => by have hx : x ∈ ([] : List Nat) := hx; cases hx), ?_⟩
  replace hb1 := hb1.keep0 k24
  replace hb2 := hb2.keep0 k24
  replace hb3 := hb3.keep0 k24
  replace hb5 := hb5.keep0 k24
  replace hb8 := hb8.keep0 k24
  replace hB := hB.trans k24
  refine pa_g [(27, _)] rfl rfl ⟨rfl, trivial⟩ rfl (fun W' kk => g_notd rfl) ?_
  refine pa_g [(28, _)] rfl rfl ⟨rfl, trivial⟩ rfl (fun W' kk => g_mv rfl) ?_
  refine pa_grp 29 false rfl (fun c1 hgc1 => ?_)
  refine pa_gg [(3, _), (29, _)] [(3, _)] rfl rfl ⟨rfl, rfl, trivial⟩ rfl (grd1 rfl rfl rfl hgc1) ⟨und0 rfl, trivial⟩ (fun hw1 => (fun W' kk => g_ldab (cs' := [_, _, _, _, _]) ag26 ty26 rfl (Bk.keep0 hb2 kk) rfl rfl)) ?_
  refine pa_gdk (V := .bool (decide (b = 0))) [(29, _), (30, _)] [(30, _)] rfl rfl ⟨rfl, rfl, trivial⟩ rfl (grd1 rfl rfl rfl hgc1) ⟨und1 rfl, trivial⟩ rfl (fun W1 kk hw2 => (d_call (vs := [_]) rfl (zero_any _ _ hg _)).mono (by rintro _ w26 ⟨rfl, k26⟩; exact ⟨rfl, k26⟩)) (fun w27 k27 => ?_)
  replace hb1 := hb1.keep0 k27
  replace hb2 := hb2.keep0 k27
  replace hb3 := hb3.keep0 k27
  replace hb5 := hb5.keep0 k27
  replace hb8 := hb8.keep0 k27
  replace hB := hB.trans k27
  refine pa_gg [(29, _), (31, _)] [(31, _)] rfl rfl ⟨rfl, rfl, trivial⟩ rfl (grd1 rfl rfl rfl hgc1) ⟨und1 rfl, trivial⟩ (fun hw3 => (fun W' kk => g_mv rfl)) ?_
  refine pa_grp2 32 true rfl (fun c2 hgc2 => ?_)
  refine pa_gg [(2, _), (32, _)] [(2, _)] rfl rfl ⟨rfl, rfl, trivial⟩ rfl (grd2 rfl rfl rfl hgc2) ⟨und0 rfl, trivial⟩ (fun hw4 => (fun W' kk => g_ldab (cs' := [_, _, _, _, _]) ag26 ty26 rfl (Bk.keep0 hb1 kk) rfl rfl)) ?_
  refine pa_gdk (V := .bool (decide (a = 0))) [(32, _), (33, _)] [(33, _)] rfl rfl ⟨rfl, rfl, trivial⟩ rfl (grd2 rfl rfl rfl hgc2) ⟨und1 rfl, trivial⟩ rfl (fun W1 kk hw5 => (d_call (vs := [_]) rfl (zero_any _ _ hf _)).mono (by rintro _ w28 ⟨rfl, k28⟩; exact ⟨rfl, k28⟩)) (fun w29 k29 => ?_)
  replace hb1 := hb1.keep0 k29
  replace hb2 := hb2.keep0 k29
  replace hb3 := hb3.keep0 k29
  replace hb5 := hb5.keep0 k29
  replace hb8 := hb8.keep0 k29
  replace hB := hB.trans k29
  refine pa_gg [(32, _), (34, _)] [(34, _)] rfl rfl ⟨rfl, rfl, trivial⟩ rfl (grd2 rfl rfl rfl hgc2) ⟨und1 rfl, trivial⟩ (fun hw6 => (fun W' kk => g_notd rfl)) ?_
  refine pa_pand (dj := 0) [(29, _), (32, _), (35, _)] rfl rfl ⟨rfl, rfl, rfl, trivial⟩ rfl (grd1 rfl rfl rfl hgc1) (und1 rfl) rfl hgc2 rfl ?_
  refine pa_g [(29, _), (36, _)] rfl rfl ⟨rfl, rfl, trivial⟩ rfl (fun W' kk => g_por rfl rfl hgc1) ?_
  refine pa_nil (fun w30 k30 => ?_)
  replace hb1 := hb1.keep0 k30
  replace hb2 := hb2.keep0 k30
  replace hb3 := hb3.keep0 k30
  replace hb5 := hb5.keep0 k30
  replace hb8 := hb8.keep0 k30
  replace hB := hB.trans k30
  refine fina_nil ?_
  refine ow_nil (tw_keep [(7, _), (4, _), (37, _)] ⟨rfl, rfl, rfl, trivial⟩ ?_)
  refine tw_cond rfl (fun hc2 => ?_) (fun hc2 => ?_)
  ·
   have hd1 := hc2
   try (simp only [Bool.and_eq_true, Bool.or_eq_true, decide_eq_true_eq, Bool.and_eq_false_iff, Bool.or_eq_false_iff, decide_eq_false_iff_not, Bool.not_eq_true', Bool.not_eq_false', Bool.not_eq_true, Bool.not_eq_false, ne_eq, Decidable.not_not, decide_true, decide_false, Bool.true_and, Bool.false_and, Bool.or_false, Bool.false_or, not_true_eq_false, false_or, or_false, true_and, and_true, not_false_eq_true, reduceCtorEq] at hd1)
   refine tw_seq (tw_region (ow_g (g_blda (idx := []) (xs := []) (vs := []) (css := []) (out := [.int .u64 0, .int .u64 0, .int .u64 0, .int .u64 0, .int .u64 0]) Try.underlying26 ty24 ty26 (arr_pls 5 1) rfl rfl trivial rfl rfl) rfl ?_))
   refine ow_d0 (d_sta ty26 rfl rfl rfl (by simp only [List.forall_mem_cons]; refine ⟨rfl, rfl, rfl, rfl, rfl, fun v hv => by cases hv⟩) hb3 rfl) ?_
   rintro _ w31 ⟨hb9, k31, z8⟩
   replace hb1 := hb1.keep k31 (fun hm => absurd (List.mem_singleton.1 hm) ne_b1_b3)
   replace hb2 := hb2.keep k31 (fun hm => absurd (List.mem_singleton.1 hm) ne_b2_b3)
   replace hb5 := hb5.keep k31 (fun hm => absurd (List.mem_singleton.1 hm) (Ne.symm ne_b3_b4))
   replace hb8 := hb8.keep k31 (fun hm => absurd (List.mem_singleton.1 hm) (Ne.symm ne_b3_b5))
   replace hB := hB.new k31 (fun x hx => .inl ((List.mem_singleton.1 hx) ▸ ge_b3))
   clear z8
   replace hb9 : Bk w31 b3 _ [.int .u64 0, .int .u64 0, .int .u64 0, .int .u64 0, .int .u64 0] := hb9
   refine ow_g (g_as rfl) rfl (ow_nil (tw_retct hfin Try.results71 rfl (run_loadAgg ag26 ty26 ‹_› rfl) rfl ?_))
   exact ⟨vecN [0, 0, 0, 0, 0], by rw [rootS_F (root1_T hc1) hc2]; rfl, by rw [rootF_F (rootS_F (root1_T hc1) hc2)]; exact el_zero, hB⟩
  ·
   have hd2 := hc2
   try (simp only [Bool.and_eq_true, Bool.or_eq_true, decide_eq_true_eq, Bool.and_eq_false_iff, Bool.or_eq_false_iff, decide_eq_false_iff_not, Bool.not_eq_true', Bool.not_eq_false', Bool.not_eq_true, Bool.not_eq_false, ne_eq, Decidable.not_not, decide_true, decide_false, Bool.true_and, Bool.false_and, Bool.or_false, Bool.false_or, not_true_eq_false, false_or, or_false, true_and, and_true, not_false_eq_true, reduceCtorEq] at hd2)
   refine tw_skip (tw_seq (tw_seq (tw_region (ow_g (g_ldab (cs' := [_, _, _, _, _]) ag26 ty26 rfl hb8 rfl rfl) rfl ?_))))
   refine ow_d (d_call (vs := [_]) rfl (put_any _ _ E6 _)) rfl ?_
   rintro v1 w32 ⟨o1, k32⟩
   have gl_o1 := hB.size
   have sb_b1_o1 := fun x hx => (show x ≠ b1 from by have h1 := (o1.blk x hx).1; have h2 := hb1.lt; omega)
   have sb_b2_o1 := fun x hx => (show x ≠ b2 from by have h1 := (o1.blk x hx).1; have h2 := hb2.lt; omega)
   have sb_b3_o1 := fun x hx => (show x ≠ b3 from by have h1 := (o1.blk x hx).1; have h2 := hb3.lt; omega)
   have sb_b4_o1 := fun x hx => (show x ≠ b4 from by have h1 := (o1.blk x hx).1; have h2 := hb5.lt; omega)
   have sb_b5_o1 := fun x hx => (show x ≠ b5 from by have h1 := (o1.blk x hx).1; have h2 := hb8.lt; omega)
   replace hb1 := hb1.keep0 k32
   replace hb2 := hb2.keep0 k32
   replace hb3 := hb3.keep0 k32
   replace hb5 := hb5.keep0 k32
   replace hb8 := hb8.keep0 k32
   replace hB := hB.trans k32
   have u_o1 := o1.blk
   have lnv1 := fpB_length ((fpow (a * (inv b)) 7237005577332262213973186563042994240829374041602535252466099000494570602494) * (fpow 2 14474011154664524427946373126085988481658748083205070504932198000989141204987))
   refine ow_g (g_ix Try.underlying22 ty5 rfl (by first | assumption | exact Own.rd ‹_› | exact Rd.keep0 ‹_› hB | exact Own.rd (Own.keep0 ‹_› hB)) rfl (by omega)) rfl ?_
   refine ow_g (g_ldB sc5 rfl (by first | assumption | exact Own.rd ‹_› | exact Rd.keep0 ‹_› hB | exact Own.rd (Own.keep0 ‹_› hB)) (by omega)) rfl ?_
   refine ow_g (g_and rfl rfl) rfl ?_
   refine ow_g (g_eq rfl rfl) rfl ?_
   refine ow_nil (tw_if rfl (fun hc3 => ?_) (fun hc3 => ?_))
   ·
    refine tw_region (ow_g (g_blda (idx := []) (xs := []) (vs := []) (css := []) (out := [.int .u64 0, .int .u64 0, .int .u64 0, .int .u64 0, .int .u64 0]) Try.underlying26 ty24 ty26 (arr_pls 5 1) rfl rfl trivial rfl rfl) rfl ?_)
    refine ow_g (g_ldab (cs' := [_, _, _, _, _]) ag26 ty26 rfl hb8 rfl rfl) rfl ?_
    refine ow_d (d_call (vs := [_, _]) rfl (sub_any _ _ _ _ el_zero E6 _)) rfl ?_
    rintro _ w33 ⟨hh8, rfl, E8, k33⟩
    replace hb1 := hb1.keep0 k33
    replace hb2 := hb2.keep0 k33
    replace hb3 := hb3.keep0 k33
    replace hb5 := hb5.keep0 k33
    replace hb8 := hb8.keep0 k33
    replace o1 := o1.keep0 k33
    replace hB := hB.trans k33
    refine ow_d0 (d_sta ty26 rfl rfl rfl ivF_one hb8 rfl) ?_
    rintro _ w34 ⟨hb10, k34, z9⟩
    replace hb1 := hb1.keep k34 (fun hm => absurd (List.mem_singleton.1 hm) ne_b1_b5)
    replace hb2 := hb2.keep k34 (fun hm => absurd (List.mem_singleton.1 hm) ne_b2_b5)
    replace hb3 := hb3.keep k34 (fun hm => absurd (List.mem_singleton.1 hm) ne_b3_b5)
    replace hb5 := hb5.keep k34 (fun hm => absurd (List.mem_singleton.1 hm) ne_b4_b5)
    replace o1 := o1.keep k34 (fun x hx hm => sb_b5_o1 x hx (List.mem_singleton.1 hm))
    replace hB := hB.new k34 (fun x hx => .inl ((List.mem_singleton.1 hx) ▸ ge_b5))
    clear z9
    replace hb10 : Bk w34 b5 _ [.int .u64 (hh8 0), .int .u64 (hh8 1), .int .u64 (hh8 2), .int .u64 (hh8 3), .int .u64 (hh8 4)] := hb10
    refine ow_nil (tw_keep [(7, _), (4, _)] ⟨rfl, rfl, trivial⟩ ?_)
    refine tw_seq (tw_region (ow_g (g_ldab (cs' := [_, _, _, _, _]) ag26 ty26 rfl hb10 rfl rfl) rfl ?_))
    refine ow_d0 (d_sta ty26 rfl rfl rfl (by simp only [List.forall_mem_cons]; refine ⟨rfl, rfl, rfl, rfl, rfl, fun v hv => by cases hv⟩) hb3 rfl) ?_
    rintro _ w35 ⟨hb11, k35, z10⟩
    replace o1 := o1.keep k35 (fun x hx hm => sb_b3_o1 x hx (List.mem_singleton.1 hm))
    replace hb10 := hb10.keep k35 (fun hm => absurd (List.mem_singleton.1 hm) (Ne.symm ne_b3_b5))
    replace hB := hB.new k35 (fun x hx => .inl ((List.mem_singleton.1 hx) ▸ ge_b3))
    clear z10
    replace hb11 : Bk w35 b3 _ [.int .u64 (hh8 0), .int .u64 (hh8 1), .int .u64 (hh8 2), .int .u64 (hh8 3), .int .u64 (hh8 4)] := hb11
    refine ow_g (g_as rfl) rfl (ow_nil (tw_retct hfin Try.results71 rfl (run_loadAgg ag26 ty26 ‹_› rfl) rfl ?_))
    exact ⟨hh8, by rw [rootS_T (root1_T hc1) hc2]; rfl, by rw [rootF_odd (rootS_T (root1_T hc1) hc2) (root1_T hc1) hc3]; exact E8, hB⟩
   ·
    refine tw_skip (tw_seq (tw_region (ow_g (g_ldab (cs' := [_, _, _, _, _]) ag26 ty26 rfl hb8 rfl rfl) rfl ?_)))
    refine ow_d0 (d_sta ty26 rfl rfl rfl (by simp only [List.forall_mem_cons]; refine ⟨rfl, rfl, rfl, rfl, rfl, fun v hv => by cases hv⟩) hb3 rfl) ?_
    rintro _ w36 ⟨hb12, k36, z11⟩
    replace hb1 := hb1.keep k36 (fun hm => absurd (List.mem_singleton.1 hm) ne_b1_b3)
    replace hb2 := hb2.keep k36 (fun hm => absurd (List.mem_singleton.1 hm) ne_b2_b3)
    replace hb5 := hb5.keep k36 (fun hm => absurd (List.mem_singleton.1 hm) (Ne.symm ne_b3_b4))
    replace hb8 := hb8.keep k36 (fun hm => absurd (List.mem_singleton.1 hm) (Ne.symm ne_b3_b5))
    replace o1 := o1.keep k36 (fun x hx hm => sb_b3_o1 x hx (List.mem_singleton.1 hm))
    replace hB := hB.new k36 (fun x hx => .inl ((List.mem_singleton.1 hx) ▸ ge_b3))
    clear z11
    replace hb12 : Bk w36 b3 _ [.int .u64 (hh6 0), .int .u64 (hh6 1), .int .u64 (hh6 2), .int .u64 (hh6 3), .int .u64 (hh6 4)] := hb12
    refine ow_g (g_as rfl) rfl (ow_nil (tw_retct hfin Try.results71 rfl (run_loadAgg ag26 ty26 ‹_› rfl) rfl ?_))
    exact ⟨hh6, by rw [rootS_T (root1_T hc1) hc2]; rfl, by rw [rootF_even (rootS_T (root1_T hc1) hc2) (root1_T hc1) hc3]; exact E6, hB⟩
 ·
  refine tw_skip (tw_seq (tw_seq (tw_planA 15 [0, 1, 3, 2, 4, 5, 6, 7, 8, 9, 10, 11, 12, 13, 14] [2, 4, 8, 11] [] [] mixed [(7, _), (6, _), (3, _), (2, _), (4, _)] ⟨rfl, rfl, rfl, rfl, rfl, trivial⟩ (by decide +kernel) (by decide) (by decide) ?_ (fun x hx => by cases hx) rfl (fun w37 k37 => ?_))))
  · intro q hq; cases hq
  replace hb1 := hb1.keep0 k37
  replace hb2 := hb2.keep0 k37
  replace hb3 := hb3.keep0 k37
  replace hb5 := hb5.keep0 k37
  replace hb7 := hb7.keep0 k37
  replace hB := hB.trans k37
  refine pa_g [(7, _)] rfl rfl ⟨rfl, trivial⟩ rfl (fun W' kk => g_ldab (cs' := [_, _, _, _, _]) ag26 ty26 rfl (Bk.keep0 hb7 kk) rfl rfl) ?_
  refine pa_g [(7, _)] rfl rfl ⟨rfl, trivial⟩ rfl (fun W' kk => g_ldab (cs' := [_, _, _, _, _]) ag26 ty26 rfl (Bk.keep0 hb7 kk) rfl rfl) ?_
  refine pa_g [(6, _)] rfl rfl ⟨rfl, trivial⟩ rfl (fun W' kk => g_ldab (cs' := [_, _, _, _, _]) ag26 ty26 rfl (Bk.keep0 hb5 kk) rfl rfl) ?_
  refine pa_d [(23, _), (24, _)] rfl rfl ⟨rfl, rfl, trivial⟩ rfl (fun w39 k39 => ?_)
  replace hb1 := hb1.keep0 k39
  replace hb2 := hb2.keep0 k39
  replace hb3 := hb3.keep0 k39
  replace hb5 := hb5.keep0 k39
  replace hb7 := hb7.keep0 k39
  replace hB := hB.trans k39
  refine (d_call (vs := [_, _]) rfl (mul_any _ _ _ _ E3 E3 _)).mono ?_
  rintro _ w38 ⟨hh9, rfl, E9, k38⟩
  refine ⟨k38, (fun x hx => by have hx : x ∈ ([] : List Nat) := hx; cases hx), ?_⟩
  replace hb1 := hb1.keep0 k38
  replace hb2 := hb2.keep0 k38
  replace hb3 := hb3.keep0 k38
  replace hb5 := hb5.keep0 k38
  replace hb7 := hb7.keep0 k38
  replace hB := hB.trans k38
  refine pa_d [(25, _), (26, _)] rfl rfl ⟨rfl, rfl, trivial⟩ rfl (fun w41 k41 => ?_)
  replace hb1 := hb1.keep0 k41
  replace hb2 := hb2.keep0 k41
  replace hb3 := hb3.keep0 k41
  replace hb5 := hb5.keep0 k41
  replace hb7 := hb7.keep0 k41
  replace hB := hB.trans k41
  refine (d_call (vs := [_, _]) rfl (same_any _ _ _ _ E9 E2 _)).mono ?_
  rintro _ w40 ⟨rfl, k40⟩
  refine ⟨k40, (fun x hx => by have hx : x ∈ ([] : List Nat) := hx; cases hx), ?_⟩
  replace hb1 := hb1.keep0 k40
  replace hb2 := hb2.keep0 k40
  replace hb3 := hb3.keep0 k40
  replace hb5 := hb5.keep0 k40
  replace hb7 := hb7.keep0 k40
  replace hB := hB.trans k40
  refine pa_g [(27, _)] rfl rfl ⟨rfl, trivial⟩ rfl (fun W' kk => g_notd rfl) ?_
  refine pa_g [(28, _)] rfl rfl ⟨rfl, trivial⟩ rfl (fun W' kk => g_mv rfl) ?_
  refine pa_grp 29 false rfl (fun c3 hgc3 => ?_)
  refine pa_gg [(3, _), (29, _)] [(3, _)] rfl rfl ⟨rfl, rfl, trivial⟩ rfl (grd1 rfl rfl rfl hgc3) ⟨und0 rfl, trivial⟩ (fun hw7 => (fun W' kk => g_ldab (cs' := [_, _, _, _, _]) ag26 ty26 rfl (Bk.keep0 hb2 kk) rfl rfl)) ?_
  refine pa_gdk (V := .bool (decide (b = 0))) [(29, _), (30, _)] [(30, _)] rfl rfl ⟨rfl, rfl, trivial⟩ rfl (grd1 rfl rfl rfl hgc3) ⟨und1 rfl, trivial⟩ rfl (fun W1 kk hw8 => (d_call (vs := [_]) rfl (zero_any _ _ hg _)).mono (by rintro _ w42 ⟨rfl, k42⟩; exact ⟨rfl, k42⟩)) (fun w43 k43 => ?_)
  replace hb1 := hb1.keep0 k43
  replace hb2 := hb2.keep0 k43
  replace hb3 := hb3.keep0 k43
  replace hb5 := hb5.keep0 k43
  replace hb7 := hb7.keep0 k43
  replace hB := hB.trans k43
  refine pa_gg [(29, _), (31, _)] [(31, _)] rfl rfl ⟨rfl, rfl, trivial⟩ rfl (grd1 rfl rfl rfl hgc3) ⟨und1 rfl, trivial⟩ (fun hw9 => (fun W' kk => g_mv rfl)) ?_
  refine pa_grp2 32 true rfl (fun c4 hgc4 => ?_)
  refine pa_gg [(2, _), (32, _)] [(2, _)] rfl rfl ⟨rfl, rfl, trivial⟩ rfl (grd2 rfl rfl rfl hgc4) ⟨und0 rfl, trivial⟩ (fun hw10 => (fun W' kk => g_ldab (cs' := [_, _, _, _, _]) ag26 ty26 rfl (Bk.keep0 hb1 kk) rfl rfl)) ?_
  refine pa_gdk (V := .bool (decide (a = 0))) [(32, _), (33, _)] [(33, _)] rfl rfl ⟨rfl, rfl, trivial⟩ rfl (grd2 rfl rfl rfl hgc4) ⟨und1 rfl, trivial⟩ rfl (fun W1 kk hw11 => (d_call (vs := [_]) rfl (zero_any _ _ hf _)).mono (by rintro _ w44 ⟨rfl, k44⟩; exact ⟨rfl, k44⟩)) (fun w45 k45 => ?_)
  replace hb1 := hb1.keep0 k45
  replace hb2 := hb2.keep0 k45
  replace hb3 := hb3.keep0 k45
  replace hb5 := hb5.keep0 k45
  replace hb7 := hb7.keep0 k45
  replace hB := hB.trans k45
  refine pa_gg [(32, _), (34, _)] [(34, _)] rfl rfl ⟨rfl, rfl, trivial⟩ rfl (grd2 rfl rfl rfl hgc4) ⟨und1 rfl, trivial⟩ (fun hw12 => (fun W' kk => g_notd rfl)) ?_
  refine pa_pand (dj := 0) [(29, _), (32, _), (35, _)] rfl rfl ⟨rfl, rfl, rfl, trivial⟩ rfl (grd1 rfl rfl rfl hgc3) (und1 rfl) rfl hgc4 rfl ?_
  refine pa_g [(29, _), (36, _)] rfl rfl ⟨rfl, rfl, trivial⟩ rfl (fun W' kk => g_por rfl rfl hgc3) ?_
  refine pa_nil (fun w46 k46 => ?_)
  replace hb1 := hb1.keep0 k46
  replace hb2 := hb2.keep0 k46
  replace hb3 := hb3.keep0 k46
  replace hb5 := hb5.keep0 k46
  replace hb7 := hb7.keep0 k46
  replace hB := hB.trans k46
  refine fina_nil ?_
  refine ow_nil (tw_keep [(7, _), (4, _), (37, _)] ⟨rfl, rfl, rfl, trivial⟩ ?_)
  refine tw_cond rfl (fun hc4 => ?_) (fun hc4 => ?_)
  ·
   have hd3 := hc4
   try (simp only [Bool.and_eq_true, Bool.or_eq_true, decide_eq_true_eq, Bool.and_eq_false_iff, Bool.or_eq_false_iff, decide_eq_false_iff_not, Bool.not_eq_true', Bool.not_eq_false', Bool.not_eq_true, Bool.not_eq_false, ne_eq, Decidable.not_not, decide_true, decide_false, Bool.true_and, Bool.false_and, Bool.or_false, Bool.false_or, not_true_eq_false, false_or, or_false, true_and, and_true, not_false_eq_true, reduceCtorEq] at hd3)
   refine tw_seq (tw_region (ow_g (g_blda (idx := []) (xs := []) (vs := []) (css := []) (out := [.int .u64 0, .int .u64 0, .int .u64 0, .int .u64 0, .int .u64 0]) Try.underlying26 ty24 ty26 (arr_pls 5 1) rfl rfl trivial rfl rfl) rfl ?_))
   refine ow_d0 (d_sta ty26 rfl rfl rfl (by simp only [List.forall_mem_cons]; refine ⟨rfl, rfl, rfl, rfl, rfl, fun v hv => by cases hv⟩) hb3 rfl) ?_
   rintro _ w47 ⟨hb13, k47, z12⟩
   replace hb1 := hb1.keep k47 (fun hm => absurd (List.mem_singleton.1 hm) ne_b1_b3)
   replace hb2 := hb2.keep k47 (fun hm => absurd (List.mem_singleton.1 hm) ne_b2_b3)
   replace hb5 := hb5.keep k47 (fun hm => absurd (List.mem_singleton.1 hm) (Ne.symm ne_b3_b4))
   replace hb7 := hb7.keep k47 (fun hm => absurd (List.mem_singleton.1 hm) (Ne.symm ne_b3_b5))
   replace hB := hB.new k47 (fun x hx => .inl ((List.mem_singleton.1 hx) ▸ ge_b3))
   clear z12
   replace hb13 : Bk w47 b3 _ [.int .u64 0, .int .u64 0, .int .u64 0, .int .u64 0, .int .u64 0] := hb13
   refine ow_g (g_as rfl) rfl (ow_nil (tw_retct hfin Try.results71 rfl (run_loadAgg ag26 ty26 ‹_› rfl) rfl ?_))
   exact ⟨vecN [0, 0, 0, 0, 0], by rw [rootS_F (root1_F hc1) hc4]; rfl, by rw [rootF_F (rootS_F (root1_F hc1) hc4)]; exact el_zero, hB⟩
  ·
   have hd4 := hc4
   try (simp only [Bool.and_eq_true, Bool.or_eq_true, decide_eq_true_eq, Bool.and_eq_false_iff, Bool.or_eq_false_iff, decide_eq_false_iff_not, Bool.not_eq_true', Bool.not_eq_false', Bool.not_eq_true, Bool.not_eq_false, ne_eq, Decidable.not_not, decide_true, decide_false, Bool.true_and, Bool.false_and, Bool.or_false, Bool.false_or, not_true_eq_false, false_or, or_false, true_and, and_true, not_false_eq_true, reduceCtorEq] at hd4)
   refine tw_skip (tw_seq (tw_seq (tw_region (ow_g (g_ldab (cs' := [_, _, _, _, _]) ag26 ty26 rfl hb7 rfl rfl) rfl ?_))))
   refine ow_d (d_call (vs := [_]) rfl (put_any _ _ E3 _)) rfl ?_
   rintro v2 w48 ⟨o2, k48⟩
   have gl_o2 := hB.size
   have sb_b1_o2 := fun x hx => (show x ≠ b1 from by have h1 := (o2.blk x hx).1; have h2 := hb1.lt; omega)
   have sb_b2_o2 := fun x hx => (show x ≠ b2 from by have h1 := (o2.blk x hx).1; have h2 := hb2.lt; omega)
   have sb_b3_o2 := fun x hx => (show x ≠ b3 from by have h1 := (o2.blk x hx).1; have h2 := hb3.lt; omega)
   have sb_b4_o2 := fun x hx => (show x ≠ b4 from by have h1 := (o2.blk x hx).1; have h2 := hb5.lt; omega)
   have sb_b5_o2 := fun x hx => (show x ≠ b5 from by have h1 := (o2.blk x hx).1; have h2 := hb7.lt; omega)
   replace hb1 := hb1.keep0 k48
   replace hb2 := hb2.keep0 k48
   replace hb3 := hb3.keep0 k48
   replace hb5 := hb5.keep0 k48
   replace hb7 := hb7.keep0 k48
   replace hB := hB.trans k48
   have u_o2 := o2.blk
   have lnv2 := fpB_length (fpow (a * (inv b)) 7237005577332262213973186563042994240829374041602535252466099000494570602494)
   refine ow_g (g_ix Try.underlying22 ty5 rfl (by first | assumption | exact Own.rd ‹_› | exact Rd.keep0 ‹_› hB | exact Own.rd (Own.keep0 ‹_› hB)) rfl (by omega)) rfl ?_
   refine ow_g (g_ldB sc5 rfl (by first | assumption | exact Own.rd ‹_› | exact Rd.keep0 ‹_› hB | exact Own.rd (Own.keep0 ‹_› hB)) (by omega)) rfl ?_
   refine ow_g (g_and rfl rfl) rfl ?_
   refine ow_g (g_eq rfl rfl) rfl ?_
   refine ow_nil (tw_if rfl (fun hc5 => ?_) (fun hc5 => ?_))
   ·
    refine tw_region (ow_g (g_blda (idx := []) (xs := []) (vs := []) (css := []) (out := [.int .u64 0, .int .u64 0, .int .u64 0, .int .u64 0, .int .u64 0]) Try.underlying26 ty24 ty26 (arr_pls 5 1) rfl rfl trivial rfl rfl) rfl ?_)
    refine ow_g (g_ldab (cs' := [_, _, _, _, _]) ag26 ty26 rfl hb7 rfl rfl) rfl ?_
    refine ow_d (d_call (vs := [_, _]) rfl (sub_any _ _ _ _ el_zero E3 _)) rfl ?_
    rintro _ w49 ⟨hh10, rfl, E10, k49⟩
    replace hb1 := hb1.keep0 k49
    replace hb2 := hb2.keep0 k49
    replace hb3 := hb3.keep0 k49
    replace hb5 := hb5.keep0 k49
    replace hb7 := hb7.keep0 k49
    replace o2 := o2.keep0 k49
    replace hB := hB.trans k49
    refine ow_d0 (d_sta ty26 rfl rfl rfl ivF_one hb7 rfl) ?_
    rintro _ w50 ⟨hb14, k50, z13⟩
    replace hb1 := hb1.keep k50 (fun hm => absurd (List.mem_singleton.1 hm) ne_b1_b5)
    replace hb2 := hb2.keep k50 (fun hm => absurd (List.mem_singleton.1 hm) ne_b2_b5)
    replace hb3 := hb3.keep k50 (fun hm => absurd (List.mem_singleton.1 hm) ne_b3_b5)
    replace hb5 := hb5.keep k50 (fun hm => absurd (List.mem_singleton.1 hm) ne_b4_b5)
    replace o2 := o2.keep k50 (fun x hx hm => sb_b5_o2 x hx (List.mem_singleton.1 hm))
    replace hB := hB.new k50 (fun x hx => .inl ((List.mem_singleton.1 hx) ▸ ge_b5))
    clear z13
    replace hb14 : Bk w50 b5 _ [.int .u64 (hh10 0), .int .u64 (hh10 1), .int .u64 (hh10 2), .int .u64 (hh10 3), .int .u64 (hh10 4)] := hb14
    refine ow_nil (tw_keep [(7, _), (4, _)] ⟨rfl, rfl, trivial⟩ ?_)
    refine tw_seq (tw_region (ow_g (g_ldab (cs' := [_, _, _, _, _]) ag26 ty26 rfl hb14 rfl rfl) rfl ?_))
    refine ow_d0 (d_sta ty26 rfl rfl rfl (by simp only [List.forall_mem_cons]; refine ⟨rfl, rfl, rfl, rfl, rfl, fun v hv => by cases hv⟩) hb3 rfl) ?_
    rintro _ w51 ⟨hb15, k51, z14⟩
    replace o2 := o2.keep k51 (fun x hx hm => sb_b3_o2 x hx (List.mem_singleton.1 hm))
    replace hb14 := hb14.keep k51 (fun hm => absurd (List.mem_singleton.1 hm) (Ne.symm ne_b3_b5))
    replace hB := hB.new k51 (fun x hx => .inl ((List.mem_singleton.1 hx) ▸ ge_b3))
    clear z14
    replace hb15 : Bk w51 b3 _ [.int .u64 (hh10 0), .int .u64 (hh10 1), .int .u64 (hh10 2), .int .u64 (hh10 3), .int .u64 (hh10 4)] := hb15
    refine ow_g (g_as rfl) rfl (ow_nil (tw_retct hfin Try.results71 rfl (run_loadAgg ag26 ty26 ‹_› rfl) rfl ?_))
    exact ⟨hh10, by rw [rootS_T (root1_F hc1) hc4]; rfl, by rw [rootF_odd (rootS_T (root1_F hc1) hc4) (root1_F hc1) hc5]; exact E10, hB⟩
   ·
    refine tw_skip (tw_seq (tw_region (ow_g (g_ldab (cs' := [_, _, _, _, _]) ag26 ty26 rfl hb7 rfl rfl) rfl ?_)))
    refine ow_d0 (d_sta ty26 rfl rfl rfl (by simp only [List.forall_mem_cons]; refine ⟨rfl, rfl, rfl, rfl, rfl, fun v hv => by cases hv⟩) hb3 rfl) ?_
    rintro _ w52 ⟨hb16, k52, z15⟩
    replace hb1 := hb1.keep k52 (fun hm => absurd (List.mem_singleton.1 hm) ne_b1_b3)
    replace hb2 := hb2.keep k52 (fun hm => absurd (List.mem_singleton.1 hm) ne_b2_b3)
    replace hb5 := hb5.keep k52 (fun hm => absurd (List.mem_singleton.1 hm) (Ne.symm ne_b3_b4))
    replace hb7 := hb7.keep k52 (fun hm => absurd (List.mem_singleton.1 hm) (Ne.symm ne_b3_b5))
    replace o2 := o2.keep k52 (fun x hx hm => sb_b3_o2 x hx (List.mem_singleton.1 hm))
    replace hB := hB.new k52 (fun x hx => .inl ((List.mem_singleton.1 hx) ▸ ge_b3))
    clear z15
    replace hb16 : Bk w52 b3 _ [.int .u64 (hh3 0), .int .u64 (hh3 1), .int .u64 (hh3 2), .int .u64 (hh3 3), .int .u64 (hh3 4)] := hb16
    refine ow_g (g_as rfl) rfl (ow_nil (tw_retct hfin Try.results71 rfl (run_loadAgg ag26 ty26 ‹_› rfl) rfl ?_))
    exact ⟨hh3, by rw [rootS_T (root1_F hc1) hc4]; rfl, by rw [rootF_even (rootS_T (root1_F hc1) hc4) (root1_F hc1) hc5]; exact E3, hB⟩
set_option maxRecDepth 100000 in
set_option maxHeartbeats 1000000 in
theorem Root_any (u v : Value) (xs ys : List UInt8) (w : World) (hu : RdB w u xs) (hx : xs.length = 32) (hv : RdB w v ys) (hy : ys.length = 32) : Rets Try.prog 38 [u, v] w (fun v w' => ∃ q, v = .tuple #[q, .bool (rootOk (fp (leI xs)) (fp (leI ys))), .int .i64 0] ∧ OwnB w' w.heap.size q (fpB (rootF (fp (leI xs)) (fp (leI ys)))) ∧ Keep [] w w') := by
 have hB : Keep [] w w := Keep.refl _ _
 refine rets_of_tw Try.func38 rfl (by decide) Try.ntmps38 rfl (fun fin _ hfin => ?_)
 refine tw_seq (tw_region (ow_g (g_as rfl) rfl (ow_g (g_as rfl) rfl (ow_g (g_as rfl) rfl (ow_nil (tw_seq ?_))))))
 refine tw_seq (tw_region (ow_g (g_mv rfl) rfl (ow_g (g_len Try.underlying22 rfl (by first | assumption | exact Own.rd ‹_› | exact Rd.keep0 ‹_› hB | exact Own.rd (Own.keep0 ‹_› hB))) rfl ?_)))
 refine ow_g (g_ne rfl rfl) rfl ?_
 refine ow_g (g_mv rfl) rfl (ow_grp 11 false rfl (fun c1 hgc1 => ?_))
 refine ow_gg [(1, _)] (grd1 rfl rfl rfl hgc1) ⟨und0 rfl, trivial⟩ (fun hw1 => g_mv rfl) rfl ?_
 refine ow_gg [(12, _)] (grd1 rfl rfl rfl hgc1) ⟨und1 rfl, trivial⟩ (fun hw2 => g_len Try.underlying22 rfl (by first | assumption | exact Own.rd ‹_› | exact Rd.keep0 ‹_› hB | exact Own.rd (Own.keep0 ‹_› hB))) rfl ?_
 refine ow_gg [(13, _)] (grd1 rfl rfl rfl hgc1) ⟨und1 rfl, trivial⟩ (fun hw3 => g_ne rfl rfl) rfl ?_
 refine ow_g (g_por rfl rfl hgc1) rfl ?_
 refine ow_nil (tw_keep [(0, _), (1, _), (15, _)] ⟨rfl, rfl, rfl, trivial⟩ ?_)
 refine tw_cond rfl (fun hc1 => ?_) (fun hc1 => ?_)
 ·
  have hd1 := hc1
  try (simp only [Bool.and_eq_true, Bool.or_eq_true, decide_eq_true_eq, Bool.and_eq_false_iff, Bool.or_eq_false_iff, decide_eq_false_iff_not, Bool.not_eq_true', Bool.not_eq_false', Bool.not_eq_true, Bool.not_eq_false, ne_eq, Decidable.not_not, decide_true, decide_false, Bool.true_and, Bool.false_and, Bool.or_false, Bool.false_or, not_true_eq_false, false_or, or_false, true_and, and_true, not_false_eq_true, reduceCtorEq] at hd1)
  refine tw_seq (tw_region (ow_g (g_as rfl) rfl (ow_g (g_as rfl) rfl (ow_g (g_as rfl) rfl (ow_nil (tw_ret3 hfin Try.results38 rfl rfl rfl ?_))))))
  exfalso; omega
 ·
  have hd2 := hc1
  try (simp only [Bool.and_eq_true, Bool.or_eq_true, decide_eq_true_eq, Bool.and_eq_false_iff, Bool.or_eq_false_iff, decide_eq_false_iff_not, Bool.not_eq_true', Bool.not_eq_false', Bool.not_eq_true, Bool.not_eq_false, ne_eq, Decidable.not_not, decide_true, decide_false, Bool.true_and, Bool.false_and, Bool.or_false, Bool.false_or, not_true_eq_false, false_or, or_false, true_and, and_true, not_false_eq_true, reduceCtorEq] at hd2)
  refine tw_skip (tw_seq (tw_region (ow_g (g_mv rfl) rfl (ow_d (d_call (vs := [_]) rfl (get_any _ xs _ (by first | assumption | exact Own.rd ‹_› | exact Rd.keep0 ‹_› hB | exact Own.rd (Own.keep0 ‹_› hB)) hx)) rfl ?_))))
  rintro _ w1 ⟨hh1, rfl, E1, k1⟩
  replace hB := hB.trans k1
  refine ow_g (g_mv rfl) rfl (ow_d (d_call (vs := [_]) rfl (get_any _ ys _ (by first | assumption | exact Own.rd ‹_› | exact Rd.keep0 ‹_› hB | exact Own.rd (Own.keep0 ‹_› hB)) hy)) rfl ?_)
  rintro _ w2 ⟨hh2, rfl, E2, k2⟩
  replace hB := hB.trans k2
  refine ow_d (d_call (vs := [_, _]) rfl (root_any _ _ _ _ E1 E2 _)) rfl ?_
  rintro _ w3 ⟨hh3, rfl, E3, k3⟩
  replace hB := hB.trans k3
  refine ow_g (g_mv rfl) rfl (ow_g (g_ext (vs := [_, _]) rfl rfl) rfl ?_)
  refine ow_g (g_ext (vs := [_, _]) rfl rfl) rfl ?_
  refine ow_d (d_alloc ty26) rfl ?_
  rintro _ w4 ⟨b1, rfl, eb1, hb1, k4, z1⟩
  have ge_b1 : w.heap.size ≤ b1 := by have := hB.size; omega
  replace hB := hB.trans k4
  clear eb1 z1
  refine ow_d0 (d_sta ty26 rfl rfl rfl ivF_one hb1 rfl) ?_
  rintro _ w5 ⟨hb2, k5, z2⟩
  replace hB := hB.new k5 (fun x hx => .inl ((List.mem_singleton.1 hx) ▸ ge_b1))
  clear z2
  replace hb2 : Bk w5 b1 _ [.int .u64 (hh3 0), .int .u64 (hh3 1), .int .u64 (hh3 2), .int .u64 (hh3 3), .int .u64 (hh3 4)] := hb2
  refine ow_g (g_as rfl) rfl (ow_nil (tw_keep [(7, _), (5, _)] ⟨rfl, rfl, trivial⟩ ?_))
  refine tw_seq (tw_region (ow_g (g_ldab (cs' := [_, _, _, _, _]) ag26 ty26 rfl hb2 rfl rfl) rfl ?_))
  refine ow_d (d_call (vs := [_]) rfl (put_any _ _ E3 _)) rfl ?_
  rintro v1 w6 ⟨o1, k6⟩
  have gl_o1 := hB.size
  have sb_b1_o1 := fun x hx => (show x ≠ b1 from by have h1 := (o1.blk x hx).1; have h2 := hb2.lt; omega)
  replace hb2 := hb2.keep0 k6
  replace hB := hB.trans k6
  have u_o1 := o1.blk
  refine ow_g (g_mv rfl) rfl (ow_g (g_as rfl) rfl (ow_g (g_as rfl) rfl (ow_g (g_as rfl) rfl (ow_nil (tw_ret3 hfin Try.results38 rfl rfl rfl ?_)))))
  exact ⟨_, rfl, o1.lo gl_o1, hB⟩
end Go.Proofs.Ytkngeapegpehpaa.W
