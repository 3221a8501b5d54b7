/- Contracts and laws, part 3 of 6: what each function of the program and of the reference computes, shown once. -/
import Derived.Test.YtkngeapegpehpaaQgb
namespace Go.Proofs.Ytkngeapegpehpaa.W
open Go Go.Eng Go.Byt
set_option linter.unusedVariables false
set_option linter.unusedSimpArgs false
open Go.Fld Go.Ed
set_option maxRecDepth 100000 in
set_option maxHeartbeats 4000000 in
theorem get_any (v : Value) (xs : List UInt8) (w : World) (hv : RdB w v xs) (hx : xs.length = 32) : Rets Try.prog 67 [v] w (fun v w' => ∃ h, v = .agg (iv .u64 5 h).toArray ∧ El h (fp (leI xs)) ∧ Keep [] w w') := by
 have hB : Keep [] w w := Keep.refl _ _
 refine rets_of_tw Try.func67 rfl (by decide) Try.ntmps67 rfl (fun fin _ hfin => ?_)
 refine tw_seq (tw_region (ow_d (d_alloc ty26) rfl ?_))
 rintro _ w1 ⟨b1, rfl, eb1, hb1, k1, z1⟩
 have ge_b1 : w.heap.size ≤ b1 := by have := hB.size; omega
 replace hB := hB.trans k1
 clear eb1 z1
 refine ow_nil (tw_seq (tw_region (ow_d (d_alloc ty104) rfl ?_)))
 rintro _ w2 ⟨b2, rfl, eb2, hb2, k2, z2⟩
 have ge_b2 : w.heap.size ≤ b2 := by have := hB.size; omega
 have ne_b1_b2 : b1 ≠ b2 := by have := hb1.lt; omega
 replace hb1 := hb1.keep0 k2
 replace hB := hB.trans k2
 clear eb2 z2
 refine ow_nil (tw_seq (tw_seq (tw_region (ow_g (g_mv rfl) rfl (ow_nil (tw_block ?_))))))
 refine tw_unroll 32 ?_
 refine tw_seq (tw_region (ow_g (g_lt rfl rfl) rfl ?_))
 refine ow_nil (tw_seq (tw_ifT rfl (by decide) ?_))
 refine tw_skip (tw_seq (tw_block (tw_seq (tw_region (ow_g (g_mv rfl) rfl (ow_g (g_as rfl) rfl ?_))))))
 refine ow_nil (tw_still 14 mixed (by decide +kernel) (fun w3 k3 => ?_))
 replace hb1 := hb1.keep0 k3
 replace hb2 := hb2.keep0 k3
 replace hB := hB.trans k3
 refine sw_g (g_mv rfl) rfl (sw_g (g_fold (j := 0) (g_quo rfl rfl (by decide)) (by decide)) rfl ?_)
 refine sw_g (g_ixa Try.underlying104 ty24 rfl rfl (by decide)) rfl ?_
 refine sw_g (g_ldb sc24 rfl hb2 rfl) rfl ?_
 refine sw_g (g_mv rfl) rfl (sw_g (g_mv rfl) rfl (sw_g (g_ix Try.underlying22 ty5 rfl (by first | assumption | exact Own.rd ‹_› | exact Rd.keep0 ‹_› hB | exact Own.rd (Own.keep0 ‹_› hB)) rfl (by omega)) rfl ?_))
 refine sw_g (g_ldB sc5 rfl (by first | assumption | exact Own.rd ‹_› | exact Rd.keep0 ‹_› hB | exact Own.rd (Own.keep0 ‹_› hB)) (by omega)) rfl ?_
 refine sw_gx (e' := (gb xs (0))) (lo := 0) (hi := 255) (g_cv (by rw [Try.underlying5]; rfl) Try.underlying24 rfl) (wrap_fit (gb_range xs (0)) rfl) ((gb_range xs (0))) rfl (fun z3 h1 r1 => ?_)
 refine sw_g (g_mv rfl) rfl (sw_g (g_fold (j := 0) (g_rem rfl rfl (by decide)) (by decide)) rfl ?_)
 refine sw_g (g_fold (j := 0) (g_mulw rfl rfl) (by decide)) rfl ?_
 refine sw_gx (e' := z3 * 1) (lo := 0) (hi := 255) (g_shlp (m := 1) rfl rfl (by decide) rfl) (wrap_fit (in_mulc r1 (by decide)) rfl) (In.wk (in_mulc r1 (by decide)) rfl) rfl (fun z4 h2 r2 => ?_)
 refine sw_gx (e' := z4) (lo := 0) (hi := 255) (g_or rfl rfl) (zero_or rfl r2 rfl rfl) (r2) rfl (fun z5 h3 r3 => ?_)
 refine sw_nil ?_
 refine ow_g (g_ixa Try.underlying104 ty24 rfl rfl (by decide)) rfl ?_
 refine ow_d0 (d_st ty24 rfl rfl rfl hb2 rfl) ?_
 rintro _ w4 ⟨hb3, k4, z6⟩
 replace hb1 := hb1.keep k4 (fun hm => absurd (List.mem_singleton.1 hm) ne_b1_b2)
 replace hB := hB.new k4 (fun x hx => .inl ((List.mem_singleton.1 hx) ▸ ge_b2))
 clear z6
 replace hb3 : Bk w4 b2 _ [.int .u64 z5, .int .u64 0, .int .u64 0, .int .u64 0] := hb3
 refine ow_nil (tw_keep [(0, _), (2, _), (3, _), (6, _)] ⟨rfl, rfl, rfl, rfl, trivial⟩ ?_)
 refine tw_b (tw_region (ow_g (g_fold (j := 1) (g_addw rfl rfl) (by decide)) rfl ?_))
 refine ow_g (g_mv rfl) rfl (ow_nil (tw_lp (tw_seq (tw_region (ow_g (g_lt rfl rfl) rfl ?_)))))
 refine ow_nil (tw_seq (tw_ifT rfl (by decide) ?_))
 refine tw_skip (tw_seq (tw_block (tw_seq (tw_region (ow_g (g_mv rfl) rfl (ow_g (g_as rfl) rfl ?_))))))
 refine ow_nil (tw_still 14 mixed (by decide +kernel) (fun w5 k5 => ?_))
 replace hb1 := hb1.keep0 k5
 replace hb3 := hb3.keep0 k5
 replace hB := hB.trans k5
 refine sw_g (g_mv rfl) rfl (sw_g (g_fold (j := 0) (g_quo rfl rfl (by decide)) (by decide)) rfl ?_)
 refine sw_g (g_ixa Try.underlying104 ty24 rfl rfl (by decide)) rfl ?_
 refine sw_g (g_ldb sc24 rfl hb3 rfl) rfl ?_
 refine sw_g (g_mv rfl) rfl (sw_g (g_mv rfl) rfl (sw_g (g_ix Try.underlying22 ty5 rfl (by first | assumption | exact Own.rd ‹_› | exact Rd.keep0 ‹_› hB | exact Own.rd (Own.keep0 ‹_› hB)) rfl (by omega)) rfl ?_))
 refine sw_g (g_ldB sc5 rfl (by first | assumption | exact Own.rd ‹_› | exact Rd.keep0 ‹_› hB | exact Own.rd (Own.keep0 ‹_› hB)) (by omega)) rfl ?_
 refine sw_gx (e' := (gb xs (1))) (lo := 0) (hi := 255) (g_cv (by rw [Try.underlying5]; rfl) Try.underlying24 rfl) (wrap_fit (gb_range xs (1)) rfl) ((gb_range xs (1))) rfl (fun z7 h4 r4 => ?_)
 refine sw_g (g_mv rfl) rfl (sw_g (g_fold (j := 1) (g_rem rfl rfl (by decide)) (by decide)) rfl ?_)
 refine sw_g (g_fold (j := 8) (g_mulw rfl rfl) (by decide)) rfl ?_
 refine sw_gx (e' := z7 * 256) (lo := 0) (hi := 65280) (g_shlp (m := 256) rfl rfl (by decide) rfl) (wrap_fit (in_mulc r4 (by decide)) rfl) (In.wk (in_mulc r4 (by decide)) rfl) rfl (fun z8 h5 r5 => ?_)
 refine sw_gx (e' := z5 + z8) (lo := 0) (hi := 65535) (g_or rfl rfl) (or_join' 8 (m := 256) r5 rfl r3 rfl rfl rfl rfl (eq_mod h5 (Int.mul_emod_left _ _)) rfl rfl) (In.wk (in_add r3 r5) rfl) rfl (fun z9 h6 r6 => ?_)
 refine sw_nil ?_
 refine ow_g (g_ixa Try.underlying104 ty24 rfl rfl (by decide)) rfl ?_
 refine ow_d0 (d_st ty24 rfl rfl rfl hb3 rfl) ?_
 rintro _ w6 ⟨hb4, k6, z10⟩
 replace hb1 := hb1.keep k6 (fun hm => absurd (List.mem_singleton.1 hm) ne_b1_b2)
 replace hB := hB.new k6 (fun x hx => .inl ((List.mem_singleton.1 hx) ▸ ge_b2))
 clear z10
 replace hb4 : Bk w6 b2 _ [.int .u64 z9, .int .u64 0, .int .u64 0, .int .u64 0] := hb4
 refine ow_nil (tw_keep [(0, _), (2, _), (3, _), (6, _)] ⟨rfl, rfl, rfl, rfl, trivial⟩ ?_)
 refine tw_b (tw_region (ow_g (g_fold (j := 2) (g_addw rfl rfl) (by decide)) rfl ?_))
 refine ow_g (g_mv rfl) rfl (ow_nil (tw_lp (tw_seq (tw_region (ow_g (g_lt rfl rfl) rfl ?_)))))
 refine ow_nil (tw_seq (tw_ifT rfl (by decide) ?_))
 refine tw_skip (tw_seq (tw_block (tw_seq (tw_region (ow_g (g_mv rfl) rfl (ow_g (g_as rfl) rfl ?_))))))
 refine ow_nil (tw_still 14 mixed (by decide +kernel) (fun w7 k7 => ?_))
 replace hb1 := hb1.keep0 k7
 replace hb4 := hb4.keep0 k7
 replace hB := hB.trans k7
 refine sw_g (g_mv rfl) rfl (sw_g (g_fold (j := 0) (g_quo rfl rfl (by decide)) (by decide)) rfl ?_)
 refine sw_g (g_ixa Try.underlying104 ty24 rfl rfl (by decide)) rfl ?_
 refine sw_g (g_ldb sc24 rfl hb4 rfl) rfl ?_
 refine sw_g (g_mv rfl) rfl (sw_g (g_mv rfl) rfl (sw_g (g_ix Try.underlying22 ty5 rfl (by first | assumption | exact Own.rd ‹_› | exact Rd.keep0 ‹_› hB | exact Own.rd (Own.keep0 ‹_› hB)) rfl (by omega)) rfl ?_))
 refine sw_g (g_ldB sc5 rfl (by first | assumption | exact Own.rd ‹_› | exact Rd.keep0 ‹_› hB | exact Own.rd (Own.keep0 ‹_› hB)) (by omega)) rfl ?_
 refine sw_gx (e' := (gb xs (2))) (lo := 0) (hi := 255) (g_cv (by rw [Try.underlying5]; rfl) Try.underlying24 rfl) (wrap_fit (gb_range xs (2)) rfl) ((gb_range xs (2))) rfl (fun z11 h7 r7 => ?_)
 refine sw_g (g_mv rfl) rfl (sw_g (g_fold (j := 2) (g_rem rfl rfl (by decide)) (by decide)) rfl ?_)
 refine sw_g (g_fold (j := 16) (g_mulw rfl rfl) (by decide)) rfl ?_
 refine sw_gx (e' := z11 * 65536) (lo := 0) (hi := 16711680) (g_shlp (m := 65536) rfl rfl (by decide) rfl) (wrap_fit (in_mulc r7 (by decide)) rfl) (In.wk (in_mulc r7 (by decide)) rfl) rfl (fun z12 h8 r8 => ?_)
 refine sw_gx (e' := z9 + z12) (lo := 0) (hi := 16777215) (g_or rfl rfl) (or_join' 16 (m := 65536) r8 rfl r6 rfl rfl rfl rfl (eq_mod h8 (Int.mul_emod_left _ _)) rfl rfl) (In.wk (in_add r6 r8) rfl) rfl (fun z13 h9 r9 => ?_)
 refine sw_nil ?_
 refine ow_g (g_ixa Try.underlying104 ty24 rfl rfl (by decide)) rfl ?_
 refine ow_d0 (d_st ty24 rfl rfl rfl hb4 rfl) ?_
 rintro _ w8 ⟨hb5, k8, z14⟩
 replace hb1 := hb1.keep k8 (fun hm => absurd (List.mem_singleton.1 hm) ne_b1_b2)
 replace hB := hB.new k8 (fun x hx => .inl ((List.mem_singleton.1 hx) ▸ ge_b2))
 clear z14
 replace hb5 : Bk w8 b2 _ [.int .u64 z13, .int .u64 0, .int .u64 0, .int .u64 0] := hb5
 refine ow_nil (tw_keep [(0, _), (2, _), (3, _), (6, _)] ⟨rfl, rfl, rfl, rfl, trivial⟩ ?_)
 refine tw_b (tw_region (ow_g (g_fold (j := 3) (g_addw rfl rfl) (by decide)) rfl ?_))
 refine ow_g (g_mv rfl) rfl (ow_nil (tw_lp (tw_seq (tw_region (ow_g (g_lt rfl rfl) rfl ?_)))))
 refine ow_nil (tw_seq (tw_ifT rfl (by decide) ?_))
 refine tw_skip (tw_seq (tw_block (tw_seq (tw_region (ow_g (g_mv rfl) rfl (ow_g (g_as rfl) rfl ?_))))))
 refine ow_nil (tw_still 14 mixed (by decide +kernel) (fun w9 k9 => ?_))
 replace hb1 := hb1.keep0 k9
 replace hb5 := hb5.keep0 k9
 replace hB := hB.trans k9
 refine sw_g (g_mv rfl) rfl (sw_g (g_fold (j := 0) (g_quo rfl rfl (by decide)) (by decide)) rfl ?_)
 refine sw_g (g_ixa Try.underlying104 ty24 rfl rfl (by decide)) rfl ?_
 refine sw_g (g_ldb sc24 rfl hb5 rfl) rfl ?_
 refine sw_g (g_mv rfl) rfl (sw_g (g_mv rfl) rfl (sw_g (g_ix Try.underlying22 ty5 rfl (by first | assumption | exact Own.rd ‹_› | exact Rd.keep0 ‹_› hB | exact Own.rd (Own.keep0 ‹_› hB)) rfl (by omega)) rfl ?_))
 refine sw_g (g_ldB sc5 rfl (by first | assumption | exact Own.rd ‹_› | exact Rd.keep0 ‹_› hB | exact Own.rd (Own.keep0 ‹_› hB)) (by omega)) rfl ?_
 refine sw_gx (e' := (gb xs (3))) (lo := 0) (hi := 255) (g_cv (by rw [Try.underlying5]; rfl) Try.underlying24 rfl) (wrap_fit (gb_range xs (3)) rfl) ((gb_range xs (3))) rfl (fun z15 h10 r10 => ?_)
 refine sw_g (g_mv rfl) rfl (sw_g (g_fold (j := 3) (g_rem rfl rfl (by decide)) (by decide)) rfl ?_)
 refine sw_g (g_fold (j := 24) (g_mulw rfl rfl) (by decide)) rfl ?_
 refine sw_gx (e' := z15 * 16777216) (lo := 0) (hi := 4278190080) (g_shlp (m := 16777216) rfl rfl (by decide) rfl) (wrap_fit (in_mulc r10 (by decide)) rfl) (In.wk (in_mulc r10 (by decide)) rfl) rfl (fun z16 h11 r11 => ?_)
 refine sw_gx (e' := z13 + z16) (lo := 0) (hi := 4294967295) (g_or rfl rfl) (or_join' 24 (m := 16777216) r11 rfl r9 rfl rfl rfl rfl (eq_mod h11 (Int.mul_emod_left _ _)) rfl rfl) (In.wk (in_add r9 r11) rfl) rfl (fun z17 h12 r12 => ?_)
 refine sw_nil ?_
 refine ow_g (g_ixa Try.underlying104 ty24 rfl rfl (by decide)) rfl ?_
 refine ow_d0 (d_st ty24 rfl rfl rfl hb5 rfl) ?_
 rintro _ w10 ⟨hb6, k10, z18⟩
 replace hb1 := hb1.keep k10 (fun hm => absurd (List.mem_singleton.1 hm) ne_b1_b2)
 replace hB := hB.new k10 (fun x hx => .inl ((List.mem_singleton.1 hx) ▸ ge_b2))
 clear z18
 replace hb6 : Bk w10 b2 _ [.int .u64 z17, .int .u64 0, .int .u64 0, .int .u64 0] := hb6
 refine ow_nil (tw_keep [(0, _), (2, _), (3, _), (6, _)] ⟨rfl, rfl, rfl, rfl, trivial⟩ ?_)
 refine tw_b (tw_region (ow_g (g_fold (j := 4) (g_addw rfl rfl) (by decide)) rfl ?_))
 refine ow_g (g_mv rfl) rfl (ow_nil (tw_lp (tw_seq (tw_region (ow_g (g_lt rfl rfl) rfl ?_)))))
 refine ow_nil (tw_seq (tw_ifT rfl (by decide) ?_))
 refine tw_skip (tw_seq (tw_block (tw_seq (tw_region (ow_g (g_mv rfl) rfl (ow_g (g_as rfl) rfl ?_))))))
 refine ow_nil (tw_still 14 mixed (by decide +kernel) (fun w11 k11 => ?_))
 replace hb1 := hb1.keep0 k11
 replace hb6 := hb6.keep0 k11
 replace hB := hB.trans k11
 refine sw_g (g_mv rfl) rfl (sw_g (g_fold (j := 0) (g_quo rfl rfl (by decide)) (by decide)) rfl ?_)
 refine sw_g (g_ixa Try.underlying104 ty24 rfl rfl (by decide)) rfl ?_
 refine sw_g (g_ldb sc24 rfl hb6 rfl) rfl ?_
 refine sw_g (g_mv rfl) rfl (sw_g (g_mv rfl) rfl (sw_g (g_ix Try.underlying22 ty5 rfl (by first | assumption | exact Own.rd ‹_› | exact Rd.keep0 ‹_› hB | exact Own.rd (Own.keep0 ‹_› hB)) rfl (by omega)) rfl ?_))
 refine sw_g (g_ldB sc5 rfl (by first | assumption | exact Own.rd ‹_› | exact Rd.keep0 ‹_› hB | exact Own.rd (Own.keep0 ‹_› hB)) (by omega)) rfl ?_
 refine sw_gx (e' := (gb xs (4))) (lo := 0) (hi := 255) (g_cv (by rw [Try.underlying5]; rfl) Try.underlying24 rfl) (wrap_fit (gb_range xs (4)) rfl) ((gb_range xs (4))) rfl (fun z19 h13 r13 => ?_)
 refine sw_g (g_mv rfl) rfl (sw_g (g_fold (j := 4) (g_rem rfl rfl (by decide)) (by decide)) rfl ?_)
 refine sw_g (g_fold (j := 32) (g_mulw rfl rfl) (by decide)) rfl ?_
 refine sw_gx (e' := z19 * 4294967296) (lo := 0) (hi := 1095216660480) (g_shlp (m := 4294967296) rfl rfl (by decide) rfl) (wrap_fit (in_mulc r13 (by decide)) rfl) (In.wk (in_mulc r13 (by decide)) rfl) rfl (fun z20 h14 r14 => ?_)
 refine sw_gx (e' := z17 + z20) (lo := 0) (hi := 1099511627775) (g_or rfl rfl) (or_join' 32 (m := 4294967296) r14 rfl r12 rfl rfl rfl rfl (eq_mod h14 (Int.mul_emod_left _ _)) rfl rfl) (In.wk (in_add r12 r14) rfl) rfl (fun z21 h15 r15 => ?_)
 refine sw_nil ?_
 refine ow_g (g_ixa Try.underlying104 ty24 rfl rfl (by decide)) rfl ?_
 refine ow_d0 (d_st ty24 rfl rfl rfl hb6 rfl) ?_
 rintro _ w12 ⟨hb7, k12, z22⟩
 replace hb1 := hb1.keep k12 (fun hm => absurd (List.mem_singleton.1 hm) ne_b1_b2)
 replace hB := hB.new k12 (fun x hx => .inl ((List.mem_singleton.1 hx) ▸ ge_b2))
 clear z22
 replace hb7 : Bk w12 b2 _ [.int .u64 z21, .int .u64 0, .int .u64 0, .int .u64 0] := hb7
 refine ow_nil (tw_keep [(0, _), (2, _), (3, _), (6, _)] ⟨rfl, rfl, rfl, rfl, trivial⟩ ?_)
 refine tw_b (tw_region (ow_g (g_fold (j := 5) (g_addw rfl rfl) (by decide)) rfl ?_))
 refine ow_g (g_mv rfl) rfl (ow_nil (tw_lp (tw_seq (tw_region (ow_g (g_lt rfl rfl) rfl ?_)))))
 refine ow_nil (tw_seq (tw_ifT rfl (by decide) ?_))
 refine tw_skip (tw_seq (tw_block (tw_seq (tw_region (ow_g (g_mv rfl) rfl (ow_g (g_as rfl) rfl ?_))))))
 refine ow_nil (tw_still 14 mixed (by decide +kernel) (fun w13 k13 => ?_))
 replace hb1 := hb1.keep0 k13
 replace hb7 := hb7.keep0 k13
 replace hB := hB.trans k13
 refine sw_g (g_mv rfl) rfl (sw_g (g_fold (j := 0) (g_quo rfl rfl (by decide)) (by decide)) rfl ?_)
 refine sw_g (g_ixa Try.underlying104 ty24 rfl rfl (by decide)) rfl ?_
 refine sw_g (g_ldb sc24 rfl hb7 rfl) rfl ?_
 refine sw_g (g_mv rfl) rfl (sw_g (g_mv rfl) rfl (sw_g (g_ix Try.underlying22 ty5 rfl (by first | assumption | exact Own.rd ‹_› | exact Rd.keep0 ‹_› hB | exact Own.rd (Own.keep0 ‹_› hB)) rfl (by omega)) rfl ?_))
 refine sw_g (g_ldB sc5 rfl (by first | assumption | exact Own.rd ‹_› | exact Rd.keep0 ‹_› hB | exact Own.rd (Own.keep0 ‹_› hB)) (by omega)) rfl ?_
 refine sw_gx (e' := (gb xs (5))) (lo := 0) (hi := 255) (g_cv (by rw [Try.underlying5]; rfl) Try.underlying24 rfl) (wrap_fit (gb_range xs (5)) rfl) ((gb_range xs (5))) rfl (fun z23 h16 r16 => ?_)
 refine sw_g (g_mv rfl) rfl (sw_g (g_fold (j := 5) (g_rem rfl rfl (by decide)) (by decide)) rfl ?_)
 refine sw_g (g_fold (j := 40) (g_mulw rfl rfl) (by decide)) rfl ?_
 refine sw_gx (e' := z23 * 1099511627776) (lo := 0) (hi := 280375465082880) (g_shlp (m := 1099511627776) rfl rfl (by decide) rfl) (wrap_fit (in_mulc r16 (by decide)) rfl) (In.wk (in_mulc r16 (by decide)) rfl) rfl (fun z24 h17 r17 => ?_)
 refine sw_gx (e' := z21 + z24) (lo := 0) (hi := 281474976710655) (g_or rfl rfl) (or_join' 40 (m := 1099511627776) r17 rfl r15 rfl rfl rfl rfl (eq_mod h17 (Int.mul_emod_left _ _)) rfl rfl) (In.wk (in_add r15 r17) rfl) rfl (fun z25 h18 r18 => ?_)
 refine sw_nil ?_
 refine ow_g (g_ixa Try.underlying104 ty24 rfl rfl (by decide)) rfl ?_
 refine ow_d0 (d_st ty24 rfl rfl rfl hb7 rfl) ?_
 rintro _ w14 ⟨hb8, k14, z26⟩
 replace hb1 := hb1.keep k14 (fun hm => absurd (List.mem_singleton.1 hm) ne_b1_b2)
 replace hB := hB.new k14 (fun x hx => .inl ((List.mem_singleton.1 hx) ▸ ge_b2))
 clear z26
 replace hb8 : Bk w14 b2 _ [.int .u64 z25, .int .u64 0, .int .u64 0, .int .u64 0] := hb8
 refine ow_nil (tw_keep [(0, _), (2, _), (3, _), (6, _)] ⟨rfl, rfl, rfl, rfl, trivial⟩ ?_)
 refine tw_b (tw_region (ow_g (g_fold (j := 6) (g_addw rfl rfl) (by decide)) rfl ?_))
 refine ow_g (g_mv rfl) rfl (ow_nil (tw_lp (tw_seq (tw_region (ow_g (g_lt rfl rfl) rfl ?_)))))
 refine ow_nil (tw_seq (tw_ifT rfl (by decide) ?_))
 refine tw_skip (tw_seq (tw_block (tw_seq (tw_region (ow_g (g_mv rfl) rfl (ow_g (g_as rfl) rfl ?_))))))
 refine ow_nil (tw_still 14 mixed (by decide +kernel) (fun w15 k15 => ?_))
 replace hb1 := hb1.keep0 k15
 replace hb8 := hb8.keep0 k15
 replace hB := hB.trans k15
 refine sw_g (g_mv rfl) rfl (sw_g (g_fold (j := 0) (g_quo rfl rfl (by decide)) (by decide)) rfl ?_)
 refine sw_g (g_ixa Try.underlying104 ty24 rfl rfl (by decide)) rfl ?_
 refine sw_g (g_ldb sc24 rfl hb8 rfl) rfl ?_
 refine sw_g (g_mv rfl) rfl (sw_g (g_mv rfl) rfl (sw_g (g_ix Try.underlying22 ty5 rfl (by first | assumption | exact Own.rd ‹_› | exact Rd.keep0 ‹_› hB | exact Own.rd (Own.keep0 ‹_› hB)) rfl (by omega)) rfl ?_))
 refine sw_g (g_ldB sc5 rfl (by first | assumption | exact Own.rd ‹_› | exact Rd.keep0 ‹_› hB | exact Own.rd (Own.keep0 ‹_› hB)) (by omega)) rfl ?_
 refine sw_gx (e' := (gb xs (6))) (lo := 0) (hi := 255) (g_cv (by rw [Try.underlying5]; rfl) Try.underlying24 rfl) (wrap_fit (gb_range xs (6)) rfl) ((gb_range xs (6))) rfl (fun z27 h19 r19 => ?_)
 refine sw_g (g_mv rfl) rfl (sw_g (g_fold (j := 6) (g_rem rfl rfl (by decide)) (by decide)) rfl ?_)
 refine sw_g (g_fold (j := 48) (g_mulw rfl rfl) (by decide)) rfl ?_
 refine sw_gx (e' := z27 * 281474976710656) (lo := 0) (hi := 71776119061217280) (g_shlp (m := 281474976710656) rfl rfl (by decide) rfl) (wrap_fit (in_mulc r19 (by decide)) rfl) (In.wk (in_mulc r19 (by decide)) rfl) rfl (fun z28 h20 r20 => ?_)
 refine sw_gx (e' := z25 + z28) (lo := 0) (hi := 72057594037927935) (g_or rfl rfl) (or_join' 48 (m := 281474976710656) r20 rfl r18 rfl rfl rfl rfl (eq_mod h20 (Int.mul_emod_left _ _)) rfl rfl) (In.wk (in_add r18 r20) rfl) rfl (fun z29 h21 r21 => ?_)
 refine sw_nil ?_
 refine ow_g (g_ixa Try.underlying104 ty24 rfl rfl (by decide)) rfl ?_
 refine ow_d0 (d_st ty24 rfl rfl rfl hb8 rfl) ?_
 rintro _ w16 ⟨hb9, k16, z30⟩
 replace hb1 := hb1.keep k16 (fun hm => absurd (List.mem_singleton.1 hm) ne_b1_b2)
 replace hB := hB.new k16 (fun x hx => .inl ((List.mem_singleton.1 hx) ▸ ge_b2))
 clear z30
 replace hb9 : Bk w16 b2 _ [.int .u64 z29, .int .u64 0, .int .u64 0, .int .u64 0] := hb9
 refine ow_nil (tw_keep [(0, _), (2, _), (3, _), (6, _)] ⟨rfl, rfl, rfl, rfl, trivial⟩ ?_)
 refine tw_b (tw_region (ow_g (g_fold (j := 7) (g_addw rfl rfl) (by decide)) rfl ?_))
 refine ow_g (g_mv rfl) rfl (ow_nil (tw_lp (tw_seq (tw_region (ow_g (g_lt rfl rfl) rfl ?_)))))
 refine ow_nil (tw_seq (tw_ifT rfl (by decide) ?_))
 refine tw_skip (tw_seq (tw_block (tw_seq (tw_region (ow_g (g_mv rfl) rfl (ow_g (g_as rfl) rfl ?_))))))
 refine ow_nil (tw_still 14 mixed (by decide +kernel) (fun w17 k17 => ?_))
 replace hb1 := hb1.keep0 k17
 replace hb9 := hb9.keep0 k17
 replace hB := hB.trans k17
 refine sw_g (g_mv rfl) rfl (sw_g (g_fold (j := 0) (g_quo rfl rfl (by decide)) (by decide)) rfl ?_)
 refine sw_g (g_ixa Try.underlying104 ty24 rfl rfl (by decide)) rfl ?_
 refine sw_g (g_ldb sc24 rfl hb9 rfl) rfl ?_
 refine sw_g (g_mv rfl) rfl (sw_g (g_mv rfl) rfl (sw_g (g_ix Try.underlying22 ty5 rfl (by first | assumption | exact Own.rd ‹_› | exact Rd.keep0 ‹_› hB | exact Own.rd (Own.keep0 ‹_› hB)) rfl (by omega)) rfl ?_))
 refine sw_g (g_ldB sc5 rfl (by first | assumption | exact Own.rd ‹_› | exact Rd.keep0 ‹_› hB | exact Own.rd (Own.keep0 ‹_› hB)) (by omega)) rfl ?_
 refine sw_gx (e' := (gb xs (7))) (lo := 0) (hi := 255) (g_cv (by rw [Try.underlying5]; rfl) Try.underlying24 rfl) (wrap_fit (gb_range xs (7)) rfl) ((gb_range xs (7))) rfl (fun z31 h22 r22 => ?_)
 refine sw_g (g_mv rfl) rfl (sw_g (g_fold (j := 7) (g_rem rfl rfl (by decide)) (by decide)) rfl ?_)
 refine sw_g (g_fold (j := 56) (g_mulw rfl rfl) (by decide)) rfl ?_
 refine sw_gx (e' := z31 * 72057594037927936) (lo := 0) (hi := 18374686479671623680) (g_shlp (m := 72057594037927936) rfl rfl (by decide) rfl) (wrap_fit (in_mulc r22 (by decide)) rfl) (In.wk (in_mulc r22 (by decide)) rfl) rfl (fun z32 h23 r23 => ?_)
 refine sw_gx (e' := z29 + z32) (lo := 0) (hi := 18446744073709551615) (g_or rfl rfl) (or_join' 56 (m := 72057594037927936) r23 rfl r21 rfl rfl rfl rfl (eq_mod h23 (Int.mul_emod_left _ _)) rfl rfl) (In.wk (in_add r21 r23) rfl) rfl (fun z33 h24 r24 => ?_)
 refine sw_nil ?_
 refine ow_g (g_ixa Try.underlying104 ty24 rfl rfl (by decide)) rfl ?_
 refine ow_d0 (d_st ty24 rfl rfl rfl hb9 rfl) ?_
 rintro _ w18 ⟨hb10, k18, z34⟩
 replace hb1 := hb1.keep k18 (fun hm => absurd (List.mem_singleton.1 hm) ne_b1_b2)
 replace hB := hB.new k18 (fun x hx => .inl ((List.mem_singleton.1 hx) ▸ ge_b2))
 clear z34
 replace hb10 : Bk w18 b2 _ [.int .u64 z33, .int .u64 0, .int .u64 0, .int .u64 0] := hb10
 refine ow_nil (tw_keep [(0, _), (2, _), (3, _), (6, _)] ⟨rfl, rfl, rfl, rfl, trivial⟩ ?_)
 refine tw_b (tw_region (ow_g (g_fold (j := 8) (g_addw rfl rfl) (by decide)) rfl ?_))
 refine ow_g (g_mv rfl) rfl (ow_nil (tw_lp (tw_seq (tw_region (ow_g (g_lt rfl rfl) rfl ?_)))))
 refine ow_nil (tw_seq (tw_ifT rfl (by decide) ?_))
 refine tw_skip (tw_seq (tw_block (tw_seq (tw_region (ow_g (g_mv rfl) rfl (ow_g (g_as rfl) rfl ?_))))))
 refine ow_nil (tw_still 14 mixed (by decide +kernel) (fun w19 k19 => ?_))
 replace hb1 := hb1.keep0 k19
 replace hb10 := hb10.keep0 k19
 replace hB := hB.trans k19
 refine sw_g (g_mv rfl) rfl (sw_g (g_fold (j := 1) (g_quo rfl rfl (by decide)) (by decide)) rfl ?_)
 refine sw_g (g_ixa Try.underlying104 ty24 rfl rfl (by decide)) rfl ?_
 refine sw_g (g_ldb sc24 rfl hb10 rfl) rfl ?_
 refine sw_g (g_mv rfl) rfl (sw_g (g_mv rfl) rfl (sw_g (g_ix Try.underlying22 ty5 rfl (by first | assumption | exact Own.rd ‹_› | exact Rd.keep0 ‹_› hB | exact Own.rd (Own.keep0 ‹_› hB)) rfl (by omega)) rfl ?_))
 refine sw_g (g_ldB sc5 rfl (by first | assumption | exact Own.rd ‹_› | exact Rd.keep0 ‹_› hB | exact Own.rd (Own.keep0 ‹_› hB)) (by omega)) rfl ?_
 refine sw_gx (e' := (gb xs (8))) (lo := 0) (hi := 255) (g_cv (by rw [Try.underlying5]; rfl) Try.underlying24 rfl) (wrap_fit (gb_range xs (8)) rfl) ((gb_range xs (8))) rfl (fun z35 h25 r25 => ?_)
 refine sw_g (g_mv rfl) rfl (sw_g (g_fold (j := 0) (g_rem rfl rfl (by decide)) (by decide)) rfl ?_)
 refine sw_g (g_fold (j := 0) (g_mulw rfl rfl) (by decide)) rfl ?_
 refine sw_gx (e' := z35 * 1) (lo := 0) (hi := 255) (g_shlp (m := 1) rfl rfl (by decide) rfl) (wrap_fit (in_mulc r25 (by decide)) rfl) (In.wk (in_mulc r25 (by decide)) rfl) rfl (fun z36 h26 r26 => ?_)
 refine sw_gx (e' := z36) (lo := 0) (hi := 255) (g_or rfl rfl) (zero_or rfl r26 rfl rfl) (r26) rfl (fun z37 h27 r27 => ?_)
 refine sw_nil ?_
 refine ow_g (g_ixa Try.underlying104 ty24 rfl rfl (by decide)) rfl ?_
 refine ow_d0 (d_st ty24 rfl rfl rfl hb10 rfl) ?_
 rintro _ w20 ⟨hb11, k20, z38⟩
 replace hb1 := hb1.keep k20 (fun hm => absurd (List.mem_singleton.1 hm) ne_b1_b2)
 replace hB := hB.new k20 (fun x hx => .inl ((List.mem_singleton.1 hx) ▸ ge_b2))
 clear z38
 replace hb11 : Bk w20 b2 _ [.int .u64 z33, .int .u64 z37, .int .u64 0, .int .u64 0] := hb11
 refine ow_nil (tw_keep [(0, _), (2, _), (3, _), (6, _)] ⟨rfl, rfl, rfl, rfl, trivial⟩ ?_)
 refine tw_b (tw_region (ow_g (g_fold (j := 9) (g_addw rfl rfl) (by decide)) rfl ?_))
 refine ow_g (g_mv rfl) rfl (ow_nil (tw_lp (tw_seq (tw_region (ow_g (g_lt rfl rfl) rfl ?_)))))
 refine ow_nil (tw_seq (tw_ifT rfl (by decide) ?_))
 refine tw_skip (tw_seq (tw_block (tw_seq (tw_region (ow_g (g_mv rfl) rfl (ow_g (g_as rfl) rfl ?_))))))
 refine ow_nil (tw_still 14 mixed (by decide +kernel) (fun w21 k21 => ?_))
 replace hb1 := hb1.keep0 k21
 replace hb11 := hb11.keep0 k21
 replace hB := hB.trans k21
 refine sw_g (g_mv rfl) rfl (sw_g (g_fold (j := 1) (g_quo rfl rfl (by decide)) (by decide)) rfl ?_)
 refine sw_g (g_ixa Try.underlying104 ty24 rfl rfl (by decide)) rfl ?_
 refine sw_g (g_ldb sc24 rfl hb11 rfl) rfl ?_
 refine sw_g (g_mv rfl) rfl (sw_g (g_mv rfl) rfl (sw_g (g_ix Try.underlying22 ty5 rfl (by first | assumption | exact Own.rd ‹_› | exact Rd.keep0 ‹_› hB | exact Own.rd (Own.keep0 ‹_› hB)) rfl (by omega)) rfl ?_))
 refine sw_g (g_ldB sc5 rfl (by first | assumption | exact Own.rd ‹_› | exact Rd.keep0 ‹_› hB | exact Own.rd (Own.keep0 ‹_› hB)) (by omega)) rfl ?_
 refine sw_gx (e' := (gb xs (9))) (lo := 0) (hi := 255) (g_cv (by rw [Try.underlying5]; rfl) Try.underlying24 rfl) (wrap_fit (gb_range xs (9)) rfl) ((gb_range xs (9))) rfl (fun z39 h28 r28 => ?_)
 refine sw_g (g_mv rfl) rfl (sw_g (g_fold (j := 1) (g_rem rfl rfl (by decide)) (by decide)) rfl ?_)
 refine sw_g (g_fold (j := 8) (g_mulw rfl rfl) (by decide)) rfl ?_
 refine sw_gx (e' := z39 * 256) (lo := 0) (hi := 65280) (g_shlp (m := 256) rfl rfl (by decide) rfl) (wrap_fit (in_mulc r28 (by decide)) rfl) (In.wk (in_mulc r28 (by decide)) rfl) rfl (fun z40 h29 r29 => ?_)
 refine sw_gx (e' := z37 + z40) (lo := 0) (hi := 65535) (g_or rfl rfl) (or_join' 8 (m := 256) r29 rfl r27 rfl rfl rfl rfl (eq_mod h29 (Int.mul_emod_left _ _)) rfl rfl) (In.wk (in_add r27 r29) rfl) rfl (fun z41 h30 r30 => ?_)
 refine sw_nil ?_
 refine ow_g (g_ixa Try.underlying104 ty24 rfl rfl (by decide)) rfl ?_
 refine ow_d0 (d_st ty24 rfl rfl rfl hb11 rfl) ?_
 rintro _ w22 ⟨hb12, k22, z42⟩
 replace hb1 := hb1.keep k22 (fun hm => absurd (List.mem_singleton.1 hm) ne_b1_b2)
 replace hB := hB.new k22 (fun x hx => .inl ((List.mem_singleton.1 hx) ▸ ge_b2))
 clear z42
 replace hb12 : Bk w22 b2 _ [.int .u64 z33, .int .u64 z41, .int .u64 0, .int .u64 0] := hb12
 refine ow_nil (tw_keep [(0, _), (2, _), (3, _), (6, _)] ⟨rfl, rfl, rfl, rfl, trivial⟩ ?_)
 refine tw_b (tw_region (ow_g (g_fold (j := 10) (g_addw rfl rfl) (by decide)) rfl ?_))
 refine ow_g (g_mv rfl) rfl (ow_nil (tw_lp (tw_seq (tw_region (ow_g (g_lt rfl rfl) rfl ?_)))))
 refine ow_nil (tw_seq (tw_ifT rfl (by decide) ?_))
 refine tw_skip (tw_seq (tw_block (tw_seq (tw_region (ow_g (g_mv rfl) rfl (ow_g (g_as rfl) rfl ?_))))))
 refine ow_nil (tw_still 14 mixed (by decide +kernel) (fun w23 k23 => ?_))
 replace hb1 := hb1.keep0 k23
 replace hb12 := hb12.keep0 k23
 replace hB := hB.trans k23
 refine sw_g (g_mv rfl) rfl (sw_g (g_fold (j := 1) (g_quo rfl rfl (by decide)) (by decide)) rfl ?_)
 refine sw_g (g_ixa Try.underlying104 ty24 rfl rfl (by decide)) rfl ?_
 refine sw_g (g_ldb sc24 rfl hb12 rfl) rfl ?_
 refine sw_g (g_mv rfl) rfl (sw_g (g_mv rfl) rfl (sw_g (g_ix Try.underlying22 ty5 rfl (by first | assumption | exact Own.rd ‹_› | exact Rd.keep0 ‹_› hB | exact Own.rd (Own.keep0 ‹_› hB)) rfl (by omega)) rfl ?_))
 refine sw_g (g_ldB sc5 rfl (by first | assumption | exact Own.rd ‹_› | exact Rd.keep0 ‹_› hB | exact Own.rd (Own.keep0 ‹_› hB)) (by omega)) rfl ?_
 refine sw_gx (e' := (gb xs (10))) (lo := 0) (hi := 255) (g_cv (by rw [Try.underlying5]; rfl) Try.underlying24 rfl) (wrap_fit (gb_range xs (10)) rfl) ((gb_range xs (10))) rfl (fun z43 h31 r31 => ?_)
 refine sw_g (g_mv rfl) rfl (sw_g (g_fold (j := 2) (g_rem rfl rfl (by decide)) (by decide)) rfl ?_)
 refine sw_g (g_fold (j := 16) (g_mulw rfl rfl) (by decide)) rfl ?_
 refine sw_gx (e' := z43 * 65536) (lo := 0) (hi := 16711680) (g_shlp (m := 65536) rfl rfl (by decide) rfl) (wrap_fit (in_mulc r31 (by decide)) rfl) (In.wk (in_mulc r31 (by decide)) rfl) rfl (fun z44 h32 r32 => ?_)
 refine sw_gx (e' := z41 + z44) (lo := 0) (hi := 16777215) (g_or rfl rfl) (or_join' 16 (m := 65536) r32 rfl r30 rfl rfl rfl rfl (eq_mod h32 (Int.mul_emod_left _ _)) rfl rfl) (In.wk (in_add r30 r32) rfl) rfl (fun z45 h33 r33 => ?_)
 refine sw_nil ?_
 refine ow_g (g_ixa Try.underlying104 ty24 rfl rfl (by decide)) rfl ?_
 refine ow_d0 (d_st ty24 rfl rfl rfl hb12 rfl) ?_
 rintro _ w24 ⟨hb13, k24, z46⟩
 replace hb1 := hb1.keep k24 (fun hm => absurd (List.mem_singleton.1 hm) ne_b1_b2)
 replace hB := hB.new k24 (fun x hx => .inl ((List.mem_singleton.1 hx) ▸ ge_b2))
 clear z46
 replace hb13 : Bk w24 b2 _ [.int .u64 z33, .int .u64 z45, .int .u64 0, .int .u64 0] := hb13
 refine ow_nil (tw_keep [(0, _), (2, _), (3, _), (6, _)] ⟨rfl, rfl, rfl, rfl, trivial⟩ ?_)
 refine tw_b (tw_region (ow_g (g_fold (j := 11) (g_addw rfl rfl) (by decide)) rfl ?_))
 refine ow_g (g_mv rfl) rfl (ow_nil (tw_lp (tw_seq (tw_region (ow_g (g_lt rfl rfl) rfl ?_)))))
 refine ow_nil (tw_seq (tw_ifT rfl (by decide) ?_))
 refine tw_skip (tw_seq (tw_block (tw_seq (tw_region (ow_g (g_mv rfl) rfl (ow_g (g_as rfl) rfl ?_))))))
 refine ow_nil (tw_still 14 mixed (by decide +kernel) (fun w25 k25 => ?_))
 replace hb1 := hb1.keep0 k25
 replace hb13 := hb13.keep0 k25
 replace hB := hB.trans k25
 refine sw_g (g_mv rfl) rfl (sw_g (g_fold (j := 1) (g_quo rfl rfl (by decide)) (by decide)) rfl ?_)
 refine sw_g (g_ixa Try.underlying104 ty24 rfl rfl (by decide)) rfl ?_
 refine sw_g (g_ldb sc24 rfl hb13 rfl) rfl ?_
 refine sw_g (g_mv rfl) rfl (sw_g (g_mv rfl) rfl (sw_g (g_ix Try.underlying22 ty5 rfl (by first | assumption | exact Own.rd ‹_› | exact Rd.keep0 ‹_› hB | exact Own.rd (Own.keep0 ‹_› hB)) rfl (by omega)) rfl ?_))
 refine sw_g (g_ldB sc5 rfl (by first | assumption | exact Own.rd ‹_› | exact Rd.keep0 ‹_› hB | exact Own.rd (Own.keep0 ‹_› hB)) (by omega)) rfl ?_
 refine sw_gx (e' := (gb xs (11))) (lo := 0) (hi := 255) (g_cv (by rw [Try.underlying5]; rfl) Try.underlying24 rfl) (wrap_fit (gb_range xs (11)) rfl) ((gb_range xs (11))) rfl (fun z47 h34 r34 => ?_)
 refine sw_g (g_mv rfl) rfl (sw_g (g_fold (j := 3) (g_rem rfl rfl (by decide)) (by decide)) rfl ?_)
 refine sw_g (g_fold (j := 24) (g_mulw rfl rfl) (by decide)) rfl ?_
 refine sw_gx (e' := z47 * 16777216) (lo := 0) (hi := 4278190080) (g_shlp (m := 16777216) rfl rfl (by decide) rfl) (wrap_fit (in_mulc r34 (by decide)) rfl) (In.wk (in_mulc r34 (by decide)) rfl) rfl (fun z48 h35 r35 => ?_)
 refine sw_gx (e' := z45 + z48) (lo := 0) (hi := 4294967295) (g_or rfl rfl) (or_join' 24 (m := 16777216) r35 rfl r33 rfl rfl rfl rfl (eq_mod h35 (Int.mul_emod_left _ _)) rfl rfl) (In.wk (in_add r33 r35) rfl) rfl (fun z49 h36 r36 => ?_)
 refine sw_nil ?_
 refine ow_g (g_ixa Try.underlying104 ty24 rfl rfl (by decide)) rfl ?_
 refine ow_d0 (d_st ty24 rfl rfl rfl hb13 rfl) ?_
 rintro _ w26 ⟨hb14, k26, z50⟩
 replace hb1 := hb1.keep k26 (fun hm => absurd (List.mem_singleton.1 hm) ne_b1_b2)
 replace hB := hB.new k26 (fun x hx => .inl ((List.mem_singleton.1 hx) ▸ ge_b2))
 clear z50
 replace hb14 : Bk w26 b2 _ [.int .u64 z33, .int .u64 z49, .int .u64 0, .int .u64 0] := hb14
 refine ow_nil (tw_keep [(0, _), (2, _), (3, _), (6, _)] ⟨rfl, rfl, rfl, rfl, trivial⟩ ?_)
 refine tw_b (tw_region (ow_g (g_fold (j := 12) (g_addw rfl rfl) (by decide)) rfl ?_))
 refine ow_g (g_mv rfl) rfl (ow_nil (tw_lp (tw_seq (tw_region (ow_g (g_lt rfl rfl) rfl ?_)))))
 refine ow_nil (tw_seq (tw_ifT rfl (by decide) ?_))
 refine tw_skip (tw_seq (tw_block (tw_seq (tw_region (ow_g (g_mv rfl) rfl (ow_g (g_as rfl) rfl ?_))))))
 refine ow_nil (tw_still 14 mixed (by decide +kernel) (fun w27 k27 => ?_))
 replace hb1 := hb1.keep0 k27
 replace hb14 := hb14.keep0 k27
 replace hB := hB.trans k27
 refine sw_g (g_mv rfl) rfl (sw_g (g_fold (j := 1) (g_quo rfl rfl (by decide)) (by decide)) rfl ?_)
 refine sw_g (g_ixa Try.underlying104 ty24 rfl rfl (by decide)) rfl ?_
 refine sw_g (g_ldb sc24 rfl hb14 rfl) rfl ?_
 refine sw_g (g_mv rfl) rfl (sw_g (g_mv rfl) rfl (sw_g (g_ix Try.underlying22 ty5 rfl (by first | assumption | exact Own.rd ‹_› | exact Rd.keep0 ‹_› hB | exact Own.rd (Own.keep0 ‹_› hB)) rfl (by omega)) rfl ?_))
 refine sw_g (g_ldB sc5 rfl (by first | assumption | exact Own.rd ‹_› | exact Rd.keep0 ‹_› hB | exact Own.rd (Own.keep0 ‹_› hB)) (by omega)) rfl ?_
 refine sw_gx (e' := (gb xs (12))) (lo := 0) (hi := 255) (g_cv (by rw [Try.underlying5]; rfl) Try.underlying24 rfl) (wrap_fit (gb_range xs (12)) rfl) ((gb_range xs (12))) rfl (fun z51 h37 r37 => ?_)
 refine sw_g (g_mv rfl) rfl (sw_g (g_fold (j := 4) (g_rem rfl rfl (by decide)) (by decide)) rfl ?_)
 refine sw_g (g_fold (j := 32) (g_mulw rfl rfl) (by decide)) rfl ?_
 refine sw_gx (e' := z51 * 4294967296) (lo := 0) (hi := 1095216660480) (g_shlp (m := 4294967296) rfl rfl (by decide) rfl) (wrap_fit (in_mulc r37 (by decide)) rfl) (In.wk (in_mulc r37 (by decide)) rfl) rfl (fun z52 h38 r38 => ?_)
 refine sw_gx (e' := z49 + z52) (lo := 0) (hi := 1099511627775) (g_or rfl rfl) (or_join' 32 (m := 4294967296) r38 rfl r36 rfl rfl rfl rfl (eq_mod h38 (Int.mul_emod_left _ _)) rfl rfl) (In.wk (in_add r36 r38) rfl) rfl (fun z53 h39 r39 => ?_)
 refine sw_nil ?_
 refine ow_g (g_ixa Try.underlying104 ty24 rfl rfl (by decide)) rfl ?_
 refine ow_d0 (d_st ty24 rfl rfl rfl hb14 rfl) ?_
 rintro _ w28 ⟨hb15, k28, z54⟩
 replace hb1 := hb1.keep k28 (fun hm => absurd (List.mem_singleton.1 hm) ne_b1_b2)
 replace hB := hB.new k28 (fun x hx => .inl ((List.mem_singleton.1 hx) ▸ ge_b2))
 clear z54
 replace hb15 : Bk w28 b2 _ [.int .u64 z33, .int .u64 z53, .int .u64 0, .int .u64 0] := hb15
 refine ow_nil (tw_keep [(0, _), (2, _), (3, _), (6, _)] ⟨rfl, rfl, rfl, rfl, trivial⟩ ?_)
 refine tw_b (tw_region (ow_g (g_fold (j := 13) (g_addw rfl rfl) (by decide)) rfl ?_))
 refine ow_g (g_mv rfl) rfl (ow_nil (tw_lp (tw_seq (tw_region (ow_g (g_lt rfl rfl) rfl ?_)))))
 refine ow_nil (tw_seq (tw_ifT rfl (by decide) ?_))
 refine tw_skip (tw_seq (tw_block (tw_seq (tw_region (ow_g (g_mv rfl) rfl (ow_g (g_as rfl) rfl ?_))))))
 refine ow_nil (tw_still 14 mixed (by decide +kernel) (fun w29 k29 => ?_))
 replace hb1 := hb1.keep0 k29
 replace hb15 := hb15.keep0 k29
 replace hB := hB.trans k29
 refine sw_g (g_mv rfl) rfl (sw_g (g_fold (j := 1) (g_quo rfl rfl (by decide)) (by decide)) rfl ?_)
 refine sw_g (g_ixa Try.underlying104 ty24 rfl rfl (by decide)) rfl ?_
 refine sw_g (g_ldb sc24 rfl hb15 rfl) rfl ?_
 refine sw_g (g_mv rfl) rfl (sw_g (g_mv rfl) rfl (sw_g (g_ix Try.underlying22 ty5 rfl (by first | assumption | exact Own.rd ‹_› | exact Rd.keep0 ‹_› hB | exact Own.rd (Own.keep0 ‹_› hB)) rfl (by omega)) rfl ?_))
 refine sw_g (g_ldB sc5 rfl (by first | assumption | exact Own.rd ‹_› | exact Rd.keep0 ‹_› hB | exact Own.rd (Own.keep0 ‹_› hB)) (by omega)) rfl ?_
 refine sw_gx (e' := (gb xs (13))) (lo := 0) (hi := 255) (g_cv (by rw [Try.underlying5]; rfl) Try.underlying24 rfl) (wrap_fit (gb_range xs (13)) rfl) ((gb_range xs (13))) rfl (fun z55 h40 r40 => ?_)
 refine sw_g (g_mv rfl) rfl (sw_g (g_fold (j := 5) (g_rem rfl rfl (by decide)) (by decide)) rfl ?_)
 refine sw_g (g_fold (j := 40) (g_mulw rfl rfl) (by decide)) rfl ?_
 refine sw_gx (e' := z55 * 1099511627776) (lo := 0) (hi := 280375465082880) (g_shlp (m := 1099511627776) rfl rfl (by decide) rfl) (wrap_fit (in_mulc r40 (by decide)) rfl) (In.wk (in_mulc r40 (by decide)) rfl) rfl (fun z56 h41 r41 => ?_)
 refine sw_gx (e' := z53 + z56) (lo := 0) (hi := 281474976710655) (g_or rfl rfl) (or_join' 40 (m := 1099511627776) r41 rfl r39 rfl rfl rfl rfl (eq_mod h41 (Int.mul_emod_left _ _)) rfl rfl) (In.wk (in_add r39 r41) rfl) rfl (fun z57 h42 r42 => ?_)
 refine sw_nil ?_
 refine ow_g (g_ixa Try.underlying104 ty24 rfl rfl (by decide)) rfl ?_
 refine ow_d0 (d_st ty24 rfl rfl rfl hb15 rfl) ?_
 rintro _ w30 ⟨hb16, k30, z58⟩
 replace hb1 := hb1.keep k30 (fun hm => absurd (List.mem_singleton.1 hm) ne_b1_b2)
 replace hB := hB.new k30 (fun x hx => .inl ((List.mem_singleton.1 hx) ▸ ge_b2))
 clear z58
 replace hb16 : Bk w30 b2 _ [.int .u64 z33, .int .u64 z57, .int .u64 0, .int .u64 0] := hb16
 refine ow_nil (tw_keep [(0, _), (2, _), (3, _), (6, _)] ⟨rfl, rfl, rfl, rfl, trivial⟩ ?_)
 refine tw_b (tw_region (ow_g (g_fold (j := 14) (g_addw rfl rfl) (by decide)) rfl ?_))
 refine ow_g (g_mv rfl) rfl (ow_nil (tw_lp (tw_seq (tw_region (ow_g (g_lt rfl rfl) rfl ?_)))))
 refine ow_nil (tw_seq (tw_ifT rfl (by decide) ?_))
 refine tw_skip (tw_seq (tw_block (tw_seq (tw_region (ow_g (g_mv rfl) rfl (ow_g (g_as rfl) rfl ?_))))))
 refine ow_nil (tw_still 14 mixed (by decide +kernel) (fun w31 k31 => ?_))
 replace hb1 := hb1.keep0 k31
 replace hb16 := hb16.keep0 k31
 replace hB := hB.trans k31
 refine sw_g (g_mv rfl) rfl (sw_g (g_fold (j := 1) (g_quo rfl rfl (by decide)) (by decide)) rfl ?_)
 refine sw_g (g_ixa Try.underlying104 ty24 rfl rfl (by decide)) rfl ?_
 refine sw_g (g_ldb sc24 rfl hb16 rfl) rfl ?_
 refine sw_g (g_mv rfl) rfl (sw_g (g_mv rfl) rfl (sw_g (g_ix Try.underlying22 ty5 rfl (by first | assumption | exact Own.rd ‹_› | exact Rd.keep0 ‹_› hB | exact Own.rd (Own.keep0 ‹_› hB)) rfl (by omega)) rfl ?_))
 refine sw_g (g_ldB sc5 rfl (by first | assumption | exact Own.rd ‹_› | exact Rd.keep0 ‹_› hB | exact Own.rd (Own.keep0 ‹_› hB)) (by omega)) rfl ?_
 refine sw_gx (e' := (gb xs (14))) (lo := 0) (hi := 255) (g_cv (by rw [Try.underlying5]; rfl) Try.underlying24 rfl) (wrap_fit (gb_range xs (14)) rfl) ((gb_range xs (14))) rfl (fun z59 h43 r43 => ?_)
 refine sw_g (g_mv rfl) rfl (sw_g (g_fold (j := 6) (g_rem rfl rfl (by decide)) (by decide)) rfl ?_)
 refine sw_g (g_fold (j := 48) (g_mulw rfl rfl) (by decide)) rfl ?_
 refine sw_gx (e' := z59 * 281474976710656) (lo := 0) (hi := 71776119061217280) (g_shlp (m := 281474976710656) rfl rfl (by decide) rfl) (wrap_fit (in_mulc r43 (by decide)) rfl) (In.wk (in_mulc r43 (by decide)) rfl) rfl (fun z60 h44 r44 => ?_)
 refine sw_gx (e' := z57 + z60) (lo := 0) (hi := 72057594037927935) (g_or rfl rfl) (or_join' 48 (m := 281474976710656) r44 rfl r42 rfl rfl rfl rfl (eq_mod h44 (Int.mul_emod_left _ _)) rfl rfl) (In.wk (in_add r42 r44) rfl) rfl (fun z61 h45 r45 => ?_)
 refine sw_nil ?_
 refine ow_g (g_ixa Try.underlying104 ty24 rfl rfl (by decide)) rfl ?_
 refine ow_d0 (d_st ty24 rfl rfl rfl hb16 rfl) ?_
 rintro _ w32 ⟨hb17, k32, z62⟩
 replace hb1 := hb1.keep k32 (fun hm => absurd (List.mem_singleton.1 hm) ne_b1_b2)
 replace hB := hB.new k32 (fun x hx => .inl ((List.mem_singleton.1 hx) ▸ ge_b2))
 clear z62
 replace hb17 : Bk w32 b2 _ [.int .u64 z33, .int .u64 z61, .int .u64 0, .int .u64 0] := hb17
 refine ow_nil (tw_keep [(0, _), (2, _), (3, _), (6, _)] ⟨rfl, rfl, rfl, rfl, trivial⟩ ?_)
 refine tw_b (tw_region (ow_g (g_fold (j := 15) (g_addw rfl rfl) (by decide)) rfl ?_))
 refine ow_g (g_mv rfl) rfl (ow_nil (tw_lp (tw_seq (tw_region (ow_g (g_lt rfl rfl) rfl ?_)))))
 refine ow_nil (tw_seq (tw_ifT rfl (by decide) ?_))
 refine tw_skip (tw_seq (tw_block (tw_seq (tw_region (ow_g (g_mv rfl) rfl (ow_g (g_as rfl) rfl ?_))))))
 refine ow_nil (tw_still 14 mixed (by decide +kernel) (fun w33 k33 => ?_))
 replace hb1 := hb1.keep0 k33
 replace hb17 := hb17.keep0 k33
 replace hB := hB.trans k33
 refine sw_g (g_mv rfl) rfl (sw_g (g_fold (j := 1) (g_quo rfl rfl (by decide)) (by decide)) rfl ?_)
 refine sw_g (g_ixa Try.underlying104 ty24 rfl rfl (by decide)) rfl ?_
 refine sw_g (g_ldb sc24 rfl hb17 rfl) rfl ?_
 refine sw_g (g_mv rfl) rfl (sw_g (g_mv rfl) rfl (sw_g (g_ix Try.underlying22 ty5 rfl (by first | assumption | exact Own.rd ‹_› | exact Rd.keep0 ‹_› hB | exact Own.rd (Own.keep0 ‹_› hB)) rfl (by omega)) rfl ?_))
 refine sw_g (g_ldB sc5 rfl (by first | assumption | exact Own.rd ‹_› | exact Rd.keep0 ‹_› hB | exact Own.rd (Own.keep0 ‹_› hB)) (by omega)) rfl ?_
 refine sw_gx (e' := (gb xs (15))) (lo := 0) (hi := 255) (g_cv (by rw [Try.underlying5]; rfl) Try.underlying24 rfl) (wrap_fit (gb_range xs (15)) rfl) ((gb_range xs (15))) rfl (fun z63 h46 r46 => ?_)
 refine sw_g (g_mv rfl) rfl (sw_g (g_fold (j := 7) (g_rem rfl rfl (by decide)) (by decide)) rfl ?_)
 refine sw_g (g_fold (j := 56) (g_mulw rfl rfl) (by decide)) rfl ?_
 refine sw_gx (e' := z63 * 72057594037927936) (lo := 0) (hi := 18374686479671623680) (g_shlp (m := 72057594037927936) rfl rfl (by decide) rfl) (wrap_fit (in_mulc r46 (by decide)) rfl) (In.wk (in_mulc r46 (by decide)) rfl) rfl (fun z64 h47 r47 => ?_)
 refine sw_gx (e' := z61 + z64) (lo := 0) (hi := 18446744073709551615) (g_or rfl rfl) (or_join' 56 (m := 72057594037927936) r47 rfl r45 rfl rfl rfl rfl (eq_mod h47 (Int.mul_emod_left _ _)) rfl rfl) (In.wk (in_add r45 r47) rfl) rfl (fun z65 h48 r48 => ?_)
 refine sw_nil ?_
 refine ow_g (g_ixa Try.underlying104 ty24 rfl rfl (by decide)) rfl ?_
 refine ow_d0 (d_st ty24 rfl rfl rfl hb17 rfl) ?_
 rintro _ w34 ⟨hb18, k34, z66⟩
 replace hb1 := hb1.keep k34 (fun hm => absurd (List.mem_singleton.1 hm) ne_b1_b2)
 replace hB := hB.new k34 (fun x hx => .inl ((List.mem_singleton.1 hx) ▸ ge_b2))
 clear z66
 replace hb18 : Bk w34 b2 _ [.int .u64 z33, .int .u64 z65, .int .u64 0, .int .u64 0] := hb18
 refine ow_nil (tw_keep [(0, _), (2, _), (3, _), (6, _)] ⟨rfl, rfl, rfl, rfl, trivial⟩ ?_)
 refine tw_b (tw_region (ow_g (g_fold (j := 16) (g_addw rfl rfl) (by decide)) rfl ?_))
 refine ow_g (g_mv rfl) rfl (ow_nil (tw_lp (tw_seq (tw_region (ow_g (g_lt rfl rfl) rfl ?_)))))
 refine ow_nil (tw_seq (tw_ifT rfl (by decide) ?_))
 refine tw_skip (tw_seq (tw_block (tw_seq (tw_region (ow_g (g_mv rfl) rfl (ow_g (g_as rfl) rfl ?_))))))
 refine ow_nil (tw_still 14 mixed (by decide +kernel) (fun w35 k35 => ?_))
 replace hb1 := hb1.keep0 k35
 replace hb18 := hb18.keep0 k35
 replace hB := hB.trans k35
 refine sw_g (g_mv rfl) rfl (sw_g (g_fold (j := 2) (g_quo rfl rfl (by decide)) (by decide)) rfl ?_)
 refine sw_g (g_ixa Try.underlying104 ty24 rfl rfl (by decide)) rfl ?_
 refine sw_g (g_ldb sc24 rfl hb18 rfl) rfl ?_
 refine sw_g (g_mv rfl) rfl (sw_g (g_mv rfl) rfl (sw_g (g_ix Try.underlying22 ty5 rfl (by first | assumption | exact Own.rd ‹_› | exact Rd.keep0 ‹_› hB | exact Own.rd (Own.keep0 ‹_› hB)) rfl (by omega)) rfl ?_))
 refine sw_g (g_ldB sc5 rfl (by first | assumption | exact Own.rd ‹_› | exact Rd.keep0 ‹_› hB | exact Own.rd (Own.keep0 ‹_› hB)) (by omega)) rfl ?_
 refine sw_gx (e' := (gb xs (16))) (lo := 0) (hi := 255) (g_cv (by rw [Try.underlying5]; rfl) Try.underlying24 rfl) (wrap_fit (gb_range xs (16)) rfl) ((gb_range xs (16))) rfl (fun z67 h49 r49 => ?_)
 refine sw_g (g_mv rfl) rfl (sw_g (g_fold (j := 0) (g_rem rfl rfl (by decide)) (by decide)) rfl ?_)
 refine sw_g (g_fold (j := 0) (g_mulw rfl rfl) (by decide)) rfl ?_
 refine sw_gx (e' := z67 * 1) (lo := 0) (hi := 255) (g_shlp (m := 1) rfl rfl (by decide) rfl) (wrap_fit (in_mulc r49 (by decide)) rfl) (In.wk (in_mulc r49 (by decide)) rfl) rfl (fun z68 h50 r50 => ?_)
 refine sw_gx (e' := z68) (lo := 0) (hi := 255) (g_or rfl rfl) (zero_or rfl r50 rfl rfl) (r50) rfl (fun z69 h51 r51 => ?_)
 refine sw_nil ?_
 refine ow_g (g_ixa Try.underlying104 ty24 rfl rfl (by decide)) rfl ?_
 refine ow_d0 (d_st ty24 rfl rfl rfl hb18 rfl) ?_
 rintro _ w36 ⟨hb19, k36, z70⟩
 replace hb1 := hb1.keep k36 (fun hm => absurd (List.mem_singleton.1 hm) ne_b1_b2)
 replace hB := hB.new k36 (fun x hx => .inl ((List.mem_singleton.1 hx) ▸ ge_b2))
 clear z70
 replace hb19 : Bk w36 b2 _ [.int .u64 z33, .int .u64 z65, .int .u64 z69, .int .u64 0] := hb19
 refine ow_nil (tw_keep [(0, _), (2, _), (3, _), (6, _)] ⟨rfl, rfl, rfl, rfl, trivial⟩ ?_)
 refine tw_b (tw_region (ow_g (g_fold (j := 17) (g_addw rfl rfl) (by decide)) rfl ?_))
 refine ow_g (g_mv rfl) rfl (ow_nil (tw_lp (tw_seq (tw_region (ow_g (g_lt rfl rfl) rfl ?_)))))
 refine ow_nil (tw_seq (tw_ifT rfl (by decide) ?_))
 refine tw_skip (tw_seq (tw_block (tw_seq (tw_region (ow_g (g_mv rfl) rfl (ow_g (g_as rfl) rfl ?_))))))
 refine ow_nil (tw_still 14 mixed (by decide +kernel) (fun w37 k37 => ?_))
 replace hb1 := hb1.keep0 k37
 replace hb19 := hb19.keep0 k37
 replace hB := hB.trans k37
 refine sw_g (g_mv rfl) rfl (sw_g (g_fold (j := 2) (g_quo rfl rfl (by decide)) (by decide)) rfl ?_)
 refine sw_g (g_ixa Try.underlying104 ty24 rfl rfl (by decide)) rfl ?_
 refine sw_g (g_ldb sc24 rfl hb19 rfl) rfl ?_
 refine sw_g (g_mv rfl) rfl (sw_g (g_mv rfl) rfl (sw_g (g_ix Try.underlying22 ty5 rfl (by first | assumption | exact Own.rd ‹_› | exact Rd.keep0 ‹_› hB | exact Own.rd (Own.keep0 ‹_› hB)) rfl (by omega)) rfl ?_))
 refine sw_g (g_ldB sc5 rfl (by first | assumption | exact Own.rd ‹_› | exact Rd.keep0 ‹_› hB | exact Own.rd (Own.keep0 ‹_› hB)) (by omega)) rfl ?_
 refine sw_gx (e' := (gb xs (17))) (lo := 0) (hi := 255) (g_cv (by rw [Try.underlying5]; rfl) Try.underlying24 rfl) (wrap_fit (gb_range xs (17)) rfl) ((gb_range xs (17))) rfl (fun z71 h52 r52 => ?_)
 refine sw_g (g_mv rfl) rfl (sw_g (g_fold (j := 1) (g_rem rfl rfl (by decide)) (by decide)) rfl ?_)
 refine sw_g (g_fold (j := 8) (g_mulw rfl rfl) (by decide)) rfl ?_
 refine sw_gx (e' := z71 * 256) (lo := 0) (hi := 65280) (g_shlp (m := 256) rfl rfl (by decide) rfl) (wrap_fit (in_mulc r52 (by decide)) rfl) (In.wk (in_mulc r52 (by decide)) rfl) rfl (fun z72 h53 r53 => ?_)
 refine sw_gx (e' := z69 + z72) (lo := 0) (hi := 65535) (g_or rfl rfl) (or_join' 8 (m := 256) r53 rfl r51 rfl rfl rfl rfl (eq_mod h53 (Int.mul_emod_left _ _)) rfl rfl) (In.wk (in_add r51 r53) rfl) rfl (fun z73 h54 r54 => ?_)
 refine sw_nil ?_
 refine ow_g (g_ixa Try.underlying104 ty24 rfl rfl (by decide)) rfl ?_
 refine ow_d0 (d_st ty24 rfl rfl rfl hb19 rfl) ?_
 rintro _ w38 ⟨hb20, k38, z74⟩
 replace hb1 := hb1.keep k38 (fun hm => absurd (List.mem_singleton.1 hm) ne_b1_b2)
 replace hB := hB.new k38 (fun x hx => .inl ((List.mem_singleton.1 hx) ▸ ge_b2))
 clear z74
 replace hb20 : Bk w38 b2 _ [.int .u64 z33, .int .u64 z65, .int .u64 z73, .int .u64 0] := hb20
 refine ow_nil (tw_keep [(0, _), (2, _), (3, _), (6, _)] ⟨rfl, rfl, rfl, rfl, trivial⟩ ?_)
 refine tw_b (tw_region (ow_g (g_fold (j := 18) (g_addw rfl rfl) (by decide)) rfl ?_))
 refine ow_g (g_mv rfl) rfl (ow_nil (tw_lp (tw_seq (tw_region (ow_g (g_lt rfl rfl) rfl ?_)))))
 refine ow_nil (tw_seq (tw_ifT rfl (by decide) ?_))
 refine tw_skip (tw_seq (tw_block (tw_seq (tw_region (ow_g (g_mv rfl) rfl (ow_g (g_as rfl) rfl ?_))))))
 refine ow_nil (tw_still 14 mixed (by decide +kernel) (fun w39 k39 => ?_))
 replace hb1 := hb1.keep0 k39
 replace hb20 := hb20.keep0 k39
 replace hB := hB.trans k39
 refine sw_g (g_mv rfl) rfl (sw_g (g_fold (j := 2) (g_quo rfl rfl (by decide)) (by decide)) rfl ?_)
 refine sw_g (g_ixa Try.underlying104 ty24 rfl rfl (by decide)) rfl ?_
 refine sw_g (g_ldb sc24 rfl hb20 rfl) rfl ?_
 refine sw_g (g_mv rfl) rfl (sw_g (g_mv rfl) rfl (sw_g (g_ix Try.underlying22 ty5 rfl (by first | assumption | exact Own.rd ‹_› | exact Rd.keep0 ‹_› hB | exact Own.rd (Own.keep0 ‹_› hB)) rfl (by omega)) rfl ?_))
 refine sw_g (g_ldB sc5 rfl (by first | assumption | exact Own.rd ‹_› | exact Rd.keep0 ‹_› hB | exact Own.rd (Own.keep0 ‹_› hB)) (by omega)) rfl ?_
 refine sw_gx (e' := (gb xs (18))) (lo := 0) (hi := 255) (g_cv (by rw [Try.underlying5]; rfl) Try.underlying24 rfl) (wrap_fit (gb_range xs (18)) rfl) ((gb_range xs (18))) rfl (fun z75 h55 r55 => ?_)
 refine sw_g (g_mv rfl) rfl (sw_g (g_fold (j := 2) (g_rem rfl rfl (by decide)) (by decide)) rfl ?_)
 refine sw_g (g_fold (j := 16) (g_mulw rfl rfl) (by decide)) rfl ?_
 refine sw_gx (e' := z75 * 65536) (lo := 0) (hi := 16711680) (g_shlp (m := 65536) rfl rfl (by decide) rfl) (wrap_fit (in_mulc r55 (by decide)) rfl) (In.wk (in_mulc r55 (by decide)) rfl) rfl (fun z76 h56 r56 => ?_)
 refine sw_gx (e' := z73 + z76) (lo := 0) (hi := 16777215) (g_or rfl rfl) (or_join' 16 (m := 65536) r56 rfl r54 rfl rfl rfl rfl (eq_mod h56 (Int.mul_emod_left _ _)) rfl rfl) (In.wk (in_add r54 r56) rfl) rfl (fun z77 h57 r57 => ?_)
 refine sw_nil ?_
 refine ow_g (g_ixa Try.underlying104 ty24 rfl rfl (by decide)) rfl ?_
 refine ow_d0 (d_st ty24 rfl rfl rfl hb20 rfl) ?_
 rintro _ w40 ⟨hb21, k40, z78⟩
 replace hb1 := hb1.keep k40 (fun hm => absurd (List.mem_singleton.1 hm) ne_b1_b2)
 replace hB := hB.new k40 (fun x hx => .inl ((List.mem_singleton.1 hx) ▸ ge_b2))
 clear z78
 replace hb21 : Bk w40 b2 _ [.int .u64 z33, .int .u64 z65, .int .u64 z77, .int .u64 0] := hb21
 refine ow_nil (tw_keep [(0, _), (2, _), (3, _), (6, _)] ⟨rfl, rfl, rfl, rfl, trivial⟩ ?_)
 refine tw_b (tw_region (ow_g (g_fold (j := 19) (g_addw rfl rfl) (by decide)) rfl ?_))
 refine ow_g (g_mv rfl) rfl (ow_nil (tw_lp (tw_seq (tw_region (ow_g (g_lt rfl rfl) rfl ?_)))))
 refine ow_nil (tw_seq (tw_ifT rfl (by decide) ?_))
 refine tw_skip (tw_seq (tw_block (tw_seq (tw_region (ow_g (g_mv rfl) rfl (ow_g (g_as rfl) rfl ?_))))))
 refine ow_nil (tw_still 14 mixed (by decide +kernel) (fun w41 k41 => ?_))
 replace hb1 := hb1.keep0 k41
 replace hb21 := hb21.keep0 k41
 replace hB := hB.trans k41
 refine sw_g (g_mv rfl) rfl (sw_g (g_fold (j := 2) (g_quo rfl rfl (by decide)) (by decide)) rfl ?_)
 refine sw_g (g_ixa Try.underlying104 ty24 rfl rfl (by decide)) rfl ?_
 refine sw_g (g_ldb sc24 rfl hb21 rfl) rfl ?_
 refine sw_g (g_mv rfl) rfl (sw_g (g_mv rfl) rfl (sw_g (g_ix Try.underlying22 ty5 rfl (by first | assumption | exact Own.rd ‹_› | exact Rd.keep0 ‹_› hB | exact Own.rd (Own.keep0 ‹_› hB)) rfl (by omega)) rfl ?_))
 refine sw_g (g_ldB sc5 rfl (by first | assumption | exact Own.rd ‹_› | exact Rd.keep0 ‹_› hB | exact Own.rd (Own.keep0 ‹_› hB)) (by omega)) rfl ?_
 refine sw_gx (e' := (gb xs (19))) (lo := 0) (hi := 255) (g_cv (by rw [Try.underlying5]; rfl) Try.underlying24 rfl) (wrap_fit (gb_range xs (19)) rfl) ((gb_range xs (19))) rfl (fun z79 h58 r58 => ?_)
 refine sw_g (g_mv rfl) rfl (sw_g (g_fold (j := 3) (g_rem rfl rfl (by decide)) (by decide)) rfl ?_)
 refine sw_g (g_fold (j := 24) (g_mulw rfl rfl) (by decide)) rfl ?_
 refine sw_gx (e' := z79 * 16777216) (lo := 0) (hi := 4278190080) (g_shlp (m := 16777216) rfl rfl (by decide) rfl) (wrap_fit (in_mulc r58 (by decide)) rfl) (In.wk (in_mulc r58 (by decide)) rfl) rfl (fun z80 h59 r59 => ?_)
 refine sw_gx (e' := z77 + z80) (lo := 0) (hi := 4294967295) (g_or rfl rfl) (or_join' 24 (m := 16777216) r59 rfl r57 rfl rfl rfl rfl (eq_mod h59 (Int.mul_emod_left _ _)) rfl rfl) (In.wk (in_add r57 r59) rfl) rfl (fun z81 h60 r60 => ?_)
 refine sw_nil ?_
 refine ow_g (g_ixa Try.underlying104 ty24 rfl rfl (by decide)) rfl ?_
 refine ow_d0 (d_st ty24 rfl rfl rfl hb21 rfl) ?_
 rintro _ w42 ⟨hb22, k42, z82⟩
 replace hb1 := hb1.keep k42 (fun hm => absurd (List.mem_singleton.1 hm) ne_b1_b2)
 replace hB := hB.new k42 (fun x hx => .inl ((List.mem_singleton.1 hx) ▸ ge_b2))
 clear z82
 replace hb22 : Bk w42 b2 _ [.int .u64 z33, .int .u64 z65, .int .u64 z81, .int .u64 0] := hb22
 refine ow_nil (tw_keep [(0, _), (2, _), (3, _), (6, _)] ⟨rfl, rfl, rfl, rfl, trivial⟩ ?_)
 refine tw_b (tw_region (ow_g (g_fold (j := 20) (g_addw rfl rfl) (by decide)) rfl ?_))
 refine ow_g (g_mv rfl) rfl (ow_nil (tw_lp (tw_seq (tw_region (ow_g (g_lt rfl rfl) rfl ?_)))))
 refine ow_nil (tw_seq (tw_ifT rfl (by decide) ?_))
 refine tw_skip (tw_seq (tw_block (tw_seq (tw_region (ow_g (g_mv rfl) rfl (ow_g (g_as rfl) rfl ?_))))))
 refine ow_nil (tw_still 14 mixed (by decide +kernel) (fun w43 k43 => ?_))
 replace hb1 := hb1.keep0 k43
 replace hb22 := hb22.keep0 k43
 replace hB := hB.trans k43
 refine sw_g (g_mv rfl) rfl (sw_g (g_fold (j := 2) (g_quo rfl rfl (by decide)) (by decide)) rfl ?_)
 refine sw_g (g_ixa Try.underlying104 ty24 rfl rfl (by decide)) rfl ?_
 refine sw_g (g_ldb sc24 rfl hb22 rfl) rfl ?_
 refine sw_g (g_mv rfl) rfl (sw_g (g_mv rfl) rfl (sw_g (g_ix Try.underlying22 ty5 rfl (by first | assumption | exact Own.rd ‹_› | exact Rd.keep0 ‹_› hB | exact Own.rd (Own.keep0 ‹_› hB)) rfl (by omega)) rfl ?_))
 refine sw_g (g_ldB sc5 rfl (by first | assumption | exact Own.rd ‹_› | exact Rd.keep0 ‹_› hB | exact Own.rd (Own.keep0 ‹_› hB)) (by omega)) rfl ?_
 refine sw_gx (e' := (gb xs (20))) (lo := 0) (hi := 255) (g_cv (by rw [Try.underlying5]; rfl) Try.underlying24 rfl) (wrap_fit (gb_range xs (20)) rfl) ((gb_range xs (20))) rfl (fun z83 h61 r61 => ?_)
 refine sw_g (g_mv rfl) rfl (sw_g (g_fold (j := 4) (g_rem rfl rfl (by decide)) (by decide)) rfl ?_)
 refine sw_g (g_fold (j := 32) (g_mulw rfl rfl) (by decide)) rfl ?_
 refine sw_gx (e' := z83 * 4294967296) (lo := 0) (hi := 1095216660480) (g_shlp (m := 4294967296) rfl rfl (by decide) rfl) (wrap_fit (in_mulc r61 (by decide)) rfl) (In.wk (in_mulc r61 (by decide)) rfl) rfl (fun z84 h62 r62 => ?_)
 refine sw_gx (e' := z81 + z84) (lo := 0) (hi := 1099511627775) (g_or rfl rfl) (or_join' 32 (m := 4294967296) r62 rfl r60 rfl rfl rfl rfl (eq_mod h62 (Int.mul_emod_left _ _)) rfl rfl) (In.wk (in_add r60 r62) rfl) rfl (fun z85 h63 r63 => ?_)
 refine sw_nil ?_
 refine ow_g (g_ixa Try.underlying104 ty24 rfl rfl (by decide)) rfl ?_
 refine ow_d0 (d_st ty24 rfl rfl rfl hb22 rfl) ?_
 rintro _ w44 ⟨hb23, k44, z86⟩
 replace hb1 := hb1.keep k44 (fun hm => absurd (List.mem_singleton.1 hm) ne_b1_b2)
 replace hB := hB.new k44 (fun x hx => .inl ((List.mem_singleton.1 hx) ▸ ge_b2))
 clear z86
 replace hb23 : Bk w44 b2 _ [.int .u64 z33, .int .u64 z65, .int .u64 z85, .int .u64 0] := hb23
 refine ow_nil (tw_keep [(0, _), (2, _), (3, _), (6, _)] ⟨rfl, rfl, rfl, rfl, trivial⟩ ?_)
 refine tw_b (tw_region (ow_g (g_fold (j := 21) (g_addw rfl rfl) (by decide)) rfl ?_))
 refine ow_g (g_mv rfl) rfl (ow_nil (tw_lp (tw_seq (tw_region (ow_g (g_lt rfl rfl) rfl ?_)))))
 refine ow_nil (tw_seq (tw_ifT rfl (by decide) ?_))
 refine tw_skip (tw_seq (tw_block (tw_seq (tw_region (ow_g (g_mv rfl) rfl (ow_g (g_as rfl) rfl ?_))))))
 refine ow_nil (tw_still 14 mixed (by decide +kernel) (fun w45 k45 => ?_))
 replace hb1 := hb1.keep0 k45
 replace hb23 := hb23.keep0 k45
 replace hB := hB.trans k45
 refine sw_g (g_mv rfl) rfl (sw_g (g_fold (j := 2) (g_quo rfl rfl (by decide)) (by decide)) rfl ?_)
 refine sw_g (g_ixa Try.underlying104 ty24 rfl rfl (by decide)) rfl ?_
 refine sw_g (g_ldb sc24 rfl hb23 rfl) rfl ?_
 refine sw_g (g_mv rfl) rfl (sw_g (g_mv rfl) rfl (sw_g (g_ix Try.underlying22 ty5 rfl (by first | assumption | exact Own.rd ‹_› | exact Rd.keep0 ‹_› hB | exact Own.rd (Own.keep0 ‹_› hB)) rfl (by omega)) rfl ?_))
 refine sw_g (g_ldB sc5 rfl (by first | assumption | exact Own.rd ‹_› | exact Rd.keep0 ‹_› hB | exact Own.rd (Own.keep0 ‹_› hB)) (by omega)) rfl ?_
 refine sw_gx (e' := (gb xs (21))) (lo := 0) (hi := 255) (g_cv (by rw [Try.underlying5]; rfl) Try.underlying24 rfl) (wrap_fit (gb_range xs (21)) rfl) ((gb_range xs (21))) rfl (fun z87 h64 r64 => ?_)
 refine sw_g (g_mv rfl) rfl (sw_g (g_fold (j := 5) (g_rem rfl rfl (by decide)) (by decide)) rfl ?_)
 refine sw_g (g_fold (j := 40) (g_mulw rfl rfl) (by decide)) rfl ?_
 refine sw_gx (e' := z87 * 1099511627776) (lo := 0) (hi := 280375465082880) (g_shlp (m := 1099511627776) rfl rfl (by decide) rfl) (wrap_fit (in_mulc r64 (by decide)) rfl) (In.wk (in_mulc r64 (by decide)) rfl) rfl (fun z88 h65 r65 => ?_)
 refine sw_gx (e' := z85 + z88) (lo := 0) (hi := 281474976710655) (g_or rfl rfl) (or_join' 40 (m := 1099511627776) r65 rfl r63 rfl rfl rfl rfl (eq_mod h65 (Int.mul_emod_left _ _)) rfl rfl) (In.wk (in_add r63 r65) rfl) rfl (fun z89 h66 r66 => ?_)
 refine sw_nil ?_
 refine ow_g (g_ixa Try.underlying104 ty24 rfl rfl (by decide)) rfl ?_
 refine ow_d0 (d_st ty24 rfl rfl rfl hb23 rfl) ?_
 rintro _ w46 ⟨hb24, k46, z90⟩
 replace hb1 := hb1.keep k46 (fun hm => absurd (List.mem_singleton.1 hm) ne_b1_b2)
 replace hB := hB.new k46 (fun x hx => .inl ((List.mem_singleton.1 hx) ▸ ge_b2))
 clear z90
 replace hb24 : Bk w46 b2 _ [.int .u64 z33, .int .u64 z65, .int .u64 z89, .int .u64 0] := hb24
 refine ow_nil (tw_keep [(0, _), (2, _), (3, _), (6, _)] ⟨rfl, rfl, rfl, rfl, trivial⟩ ?_)
 refine tw_b (tw_region (ow_g (g_fold (j := 22) (g_addw rfl rfl) (by decide)) rfl ?_))
 refine ow_g (g_mv rfl) rfl (ow_nil (tw_lp (tw_seq (tw_region (ow_g (g_lt rfl rfl) rfl ?_)))))
 refine ow_nil (tw_seq (tw_ifT rfl (by decide) ?_))
 refine tw_skip (tw_seq (tw_block (tw_seq (tw_region (ow_g (g_mv rfl) rfl (ow_g (g_as rfl) rfl ?_))))))
 refine ow_nil (tw_still 14 mixed (by decide +kernel) (fun w47 k47 => ?_))
 replace hb1 := hb1.keep0 k47
 replace hb24 := hb24.keep0 k47
 replace hB := hB.trans k47
 refine sw_g (g_mv rfl) rfl (sw_g (g_fold (j := 2) (g_quo rfl rfl (by decide)) (by decide)) rfl ?_)
 refine sw_g (g_ixa Try.underlying104 ty24 rfl rfl (by decide)) rfl ?_
 refine sw_g (g_ldb sc24 rfl hb24 rfl) rfl ?_
 refine sw_g (g_mv rfl) rfl (sw_g (g_mv rfl) rfl (sw_g (g_ix Try.underlying22 ty5 rfl (by first | assumption | exact Own.rd ‹_› | exact Rd.keep0 ‹_› hB | exact Own.rd (Own.keep0 ‹_› hB)) rfl (by omega)) rfl ?_))
 refine sw_g (g_ldB sc5 rfl (by first | assumption | exact Own.rd ‹_› | exact Rd.keep0 ‹_› hB | exact Own.rd (Own.keep0 ‹_› hB)) (by omega)) rfl ?_
 refine sw_gx (e' := (gb xs (22))) (lo := 0) (hi := 255) (g_cv (by rw [Try.underlying5]; rfl) Try.underlying24 rfl) (wrap_fit (gb_range xs (22)) rfl) ((gb_range xs (22))) rfl (fun z91 h67 r67 => ?_)
 refine sw_g (g_mv rfl) rfl (sw_g (g_fold (j := 6) (g_rem rfl rfl (by decide)) (by decide)) rfl ?_)
 refine sw_g (g_fold (j := 48) (g_mulw rfl rfl) (by decide)) rfl ?_
 refine sw_gx (e' := z91 * 281474976710656) (lo := 0) (hi := 71776119061217280) (g_shlp (m := 281474976710656) rfl rfl (by decide) rfl) (wrap_fit (in_mulc r67 (by decide)) rfl) (In.wk (in_mulc r67 (by decide)) rfl) rfl (fun z92 h68 r68 => ?_)
 refine sw_gx (e' := z89 + z92) (lo := 0) (hi := 72057594037927935) (g_or rfl rfl) (or_join' 48 (m := 281474976710656) r68 rfl r66 rfl rfl rfl rfl (eq_mod h68 (Int.mul_emod_left _ _)) rfl rfl) (In.wk (in_add r66 r68) rfl) rfl (fun z93 h69 r69 => ?_)
 refine sw_nil ?_
 refine ow_g (g_ixa Try.underlying104 ty24 rfl rfl (by decide)) rfl ?_
 refine ow_d0 (d_st ty24 rfl rfl rfl hb24 rfl) ?_
 rintro _ w48 ⟨hb25, k48, z94⟩
 replace hb1 := hb1.keep k48 (fun hm => absurd (List.mem_singleton.1 hm) ne_b1_b2)
 replace hB := hB.new k48 (fun x hx => .inl ((List.mem_singleton.1 hx) ▸ ge_b2))
 clear z94
 replace hb25 : Bk w48 b2 _ [.int .u64 z33, .int .u64 z65, .int .u64 z93, .int .u64 0] := hb25
 refine ow_nil (tw_keep [(0, _), (2, _), (3, _), (6, _)] ⟨rfl, rfl, rfl, rfl, trivial⟩ ?_)
 refine tw_b (tw_region (ow_g (g_fold (j := 23) (g_addw rfl rfl) (by decide)) rfl ?_))
 refine ow_g (g_mv rfl) rfl (ow_nil (tw_lp (tw_seq (tw_region (ow_g (g_lt rfl rfl) rfl ?_)))))
 refine ow_nil (tw_seq (tw_ifT rfl (by decide) ?_))
 refine tw_skip (tw_seq (tw_block (tw_seq (tw_region (ow_g (g_mv rfl) rfl (ow_g (g_as rfl) rfl ?_))))))
 refine ow_nil (tw_still 14 mixed (by decide +kernel) (fun w49 k49 => ?_))
 replace hb1 := hb1.keep0 k49
 replace hb25 := hb25.keep0 k49
 replace hB := hB.trans k49
 refine sw_g (g_mv rfl) rfl (sw_g (g_fold (j := 2) (g_quo rfl rfl (by decide)) (by decide)) rfl ?_)
 refine sw_g (g_ixa Try.underlying104 ty24 rfl rfl (by decide)) rfl ?_
 refine sw_g (g_ldb sc24 rfl hb25 rfl) rfl ?_
 refine sw_g (g_mv rfl) rfl (sw_g (g_mv rfl) rfl (sw_g (g_ix Try.underlying22 ty5 rfl (by first | assumption | exact Own.rd ‹_› | exact Rd.keep0 ‹_› hB | exact Own.rd (Own.keep0 ‹_› hB)) rfl (by omega)) rfl ?_))
 refine sw_g (g_ldB sc5 rfl (by first | assumption | exact Own.rd ‹_› | exact Rd.keep0 ‹_› hB | exact Own.rd (Own.keep0 ‹_› hB)) (by omega)) rfl ?_
 refine sw_gx (e' := (gb xs (23))) (lo := 0) (hi := 255) (g_cv (by rw [Try.underlying5]; rfl) Try.underlying24 rfl) (wrap_fit (gb_range xs (23)) rfl) ((gb_range xs (23))) rfl (fun z95 h70 r70 => ?_)
 refine sw_g (g_mv rfl) rfl (sw_g (g_fold (j := 7) (g_rem rfl rfl (by decide)) (by decide)) rfl ?_)
 refine sw_g (g_fold (j := 56) (g_mulw rfl rfl) (by decide)) rfl ?_
 refine sw_gx (e' := z95 * 72057594037927936) (lo := 0) (hi := 18374686479671623680) (g_shlp (m := 72057594037927936) rfl rfl (by decide) rfl) (wrap_fit (in_mulc r70 (by decide)) rfl) (In.wk (in_mulc r70 (by decide)) rfl) rfl (fun z96 h71 r71 => ?_)
 refine sw_gx (e' := z93 + z96) (lo := 0) (hi := 18446744073709551615) (g_or rfl rfl) (or_join' 56 (m := 72057594037927936) r71 rfl r69 rfl rfl rfl rfl (eq_mod h71 (Int.mul_emod_left _ _)) rfl rfl) (In.wk (in_add r69 r71) rfl) rfl (fun z97 h72 r72 => ?_)
 refine sw_nil ?_
 refine ow_g (g_ixa Try.underlying104 ty24 rfl rfl (by decide)) rfl ?_
 refine ow_d0 (d_st ty24 rfl rfl rfl hb25 rfl) ?_
 rintro _ w50 ⟨hb26, k50, z98⟩
 replace hb1 := hb1.keep k50 (fun hm => absurd (List.mem_singleton.1 hm) ne_b1_b2)
 replace hB := hB.new k50 (fun x hx => .inl ((List.mem_singleton.1 hx) ▸ ge_b2))
 clear z98
 replace hb26 : Bk w50 b2 _ [.int .u64 z33, .int .u64 z65, .int .u64 z97, .int .u64 0] := hb26
 refine ow_nil (tw_keep [(0, _), (2, _), (3, _), (6, _)] ⟨rfl, rfl, rfl, rfl, trivial⟩ ?_)
 refine tw_b (tw_region (ow_g (g_fold (j := 24) (g_addw rfl rfl) (by decide)) rfl ?_))
 refine ow_g (g_mv rfl) rfl (ow_nil (tw_lp (tw_seq (tw_region (ow_g (g_lt rfl rfl) rfl ?_)))))
 refine ow_nil (tw_seq (tw_ifT rfl (by decide) ?_))
 refine tw_skip (tw_seq (tw_block (tw_seq (tw_region (ow_g (g_mv rfl) rfl (ow_g (g_as rfl) rfl ?_))))))
 refine ow_nil (tw_still 14 mixed (by decide +kernel) (fun w51 k51 => ?_))
 replace hb1 := hb1.keep0 k51
 replace hb26 := hb26.keep0 k51
 replace hB := hB.trans k51
 refine sw_g (g_mv rfl) rfl (sw_g (g_fold (j := 3) (g_quo rfl rfl (by decide)) (by decide)) rfl ?_)
 refine sw_g (g_ixa Try.underlying104 ty24 rfl rfl (by decide)) rfl ?_
 refine sw_g (g_ldb sc24 rfl hb26 rfl) rfl ?_
 refine sw_g (g_mv rfl) rfl (sw_g (g_mv rfl) rfl (sw_g (g_ix Try.underlying22 ty5 rfl (by first | assumption | exact Own.rd ‹_› | exact Rd.keep0 ‹_› hB | exact Own.rd (Own.keep0 ‹_› hB)) rfl (by omega)) rfl ?_))
 refine sw_g (g_ldB sc5 rfl (by first | assumption | exact Own.rd ‹_› | exact Rd.keep0 ‹_› hB | exact Own.rd (Own.keep0 ‹_› hB)) (by omega)) rfl ?_
 refine sw_gx (e' := (gb xs (24))) (lo := 0) (hi := 255) (g_cv (by rw [Try.underlying5]; rfl) Try.underlying24 rfl) (wrap_fit (gb_range xs (24)) rfl) ((gb_range xs (24))) rfl (fun z99 h73 r73 => ?_)
 refine sw_g (g_mv rfl) rfl (sw_g (g_fold (j := 0) (g_rem rfl rfl (by decide)) (by decide)) rfl ?_)
 refine sw_g (g_fold (j := 0) (g_mulw rfl rfl) (by decide)) rfl ?_
 refine sw_gx (e' := z99 * 1) (lo := 0) (hi := 255) (g_shlp (m := 1) rfl rfl (by decide) rfl) (wrap_fit (in_mulc r73 (by decide)) rfl) (In.wk (in_mulc r73 (by decide)) rfl) rfl (fun z100 h74 r74 => ?_)
 refine sw_gx (e' := z100) (lo := 0) (hi := 255) (g_or rfl rfl) (zero_or rfl r74 rfl rfl) (r74) rfl (fun z101 h75 r75 => ?_)
 refine sw_nil ?_
 refine ow_g (g_ixa Try.underlying104 ty24 rfl rfl (by decide)) rfl ?_
 refine ow_d0 (d_st ty24 rfl rfl rfl hb26 rfl) ?_
 rintro _ w52 ⟨hb27, k52, z102⟩
 replace hb1 := hb1.keep k52 (fun hm => absurd (List.mem_singleton.1 hm) ne_b1_b2)
 replace hB := hB.new k52 (fun x hx => .inl ((List.mem_singleton.1 hx) ▸ ge_b2))
 clear z102
 replace hb27 : Bk w52 b2 _ [.int .u64 z33, .int .u64 z65, .int .u64 z97, .int .u64 z101] := hb27
 refine ow_nil (tw_keep [(0, _), (2, _), (3, _), (6, _)] ⟨rfl, rfl, rfl, rfl, trivial⟩ ?_)
 refine tw_b (tw_region (ow_g (g_fold (j := 25) (g_addw rfl rfl) (by decide)) rfl ?_))
 refine ow_g (g_mv rfl) rfl (ow_nil (tw_lp (tw_seq (tw_region (ow_g (g_lt rfl rfl) rfl ?_)))))
 refine ow_nil (tw_seq (tw_ifT rfl (by decide) ?_))
 refine tw_skip (tw_seq (tw_block (tw_seq (tw_region (ow_g (g_mv rfl) rfl (ow_g (g_as rfl) rfl ?_))))))
 refine ow_nil (tw_still 14 mixed (by decide +kernel) (fun w53 k53 => ?_))
 replace hb1 := hb1.keep0 k53
 replace hb27 := hb27.keep0 k53
 replace hB := hB.trans k53
 refine sw_g (g_mv rfl) rfl (sw_g (g_fold (j := 3) (g_quo rfl rfl (by decide)) (by decide)) rfl ?_)
 refine sw_g (g_ixa Try.underlying104 ty24 rfl rfl (by decide)) rfl ?_
 refine sw_g (g_ldb sc24 rfl hb27 rfl) rfl ?_
 refine sw_g (g_mv rfl) rfl (sw_g (g_mv rfl) rfl (sw_g (g_ix Try.underlying22 ty5 rfl (by first | assumption | exact Own.rd ‹_› | exact Rd.keep0 ‹_› hB | exact Own.rd (Own.keep0 ‹_› hB)) rfl (by omega)) rfl ?_))
 refine sw_g (g_ldB sc5 rfl (by first | assumption | exact Own.rd ‹_› | exact Rd.keep0 ‹_› hB | exact Own.rd (Own.keep0 ‹_› hB)) (by omega)) rfl ?_
 refine sw_gx (e' := (gb xs (25))) (lo := 0) (hi := 255) (g_cv (by rw [Try.underlying5]; rfl) Try.underlying24 rfl) (wrap_fit (gb_range xs (25)) rfl) ((gb_range xs (25))) rfl (fun z103 h76 r76 => ?_)
 refine sw_g (g_mv rfl) rfl (sw_g (g_fold (j := 1) (g_rem rfl rfl (by decide)) (by decide)) rfl ?_)
 refine sw_g (g_fold (j := 8) (g_mulw rfl rfl) (by decide)) rfl ?_
 refine sw_gx (e' := z103 * 256) (lo := 0) (hi := 65280) (g_shlp (m := 256) rfl rfl (by decide) rfl) (wrap_fit (in_mulc r76 (by decide)) rfl) (In.wk (in_mulc r76 (by decide)) rfl) rfl (fun z104 h77 r77 => ?_)
 refine sw_gx (e' := z101 + z104) (lo := 0) (hi := 65535) (g_or rfl rfl) (or_join' 8 (m := 256) r77 rfl r75 rfl rfl rfl rfl (eq_mod h77 (Int.mul_emod_left _ _)) rfl rfl) (In.wk (in_add r75 r77) rfl) rfl (fun z105 h78 r78 => ?_)
 refine sw_nil ?_
 refine ow_g (g_ixa Try.underlying104 ty24 rfl rfl (by decide)) rfl ?_
 refine ow_d0 (d_st ty24 rfl rfl rfl hb27 rfl) ?_
 rintro _ w54 ⟨hb28, k54, z106⟩
 replace hb1 := hb1.keep k54 (fun hm => absurd (List.mem_singleton.1 hm) ne_b1_b2)
 replace hB := hB.new k54 (fun x hx => .inl ((List.mem_singleton.1 hx) ▸ ge_b2))
 clear z106
 replace hb28 : Bk w54 b2 _ [.int .u64 z33, .int .u64 z65, .int .u64 z97, .int .u64 z105] := hb28
 refine ow_nil (tw_keep [(0, _), (2, _), (3, _), (6, _)] ⟨rfl, rfl, rfl, rfl, trivial⟩ ?_)
 refine tw_b (tw_region (ow_g (g_fold (j := 26) (g_addw rfl rfl) (by decide)) rfl ?_))
 refine ow_g (g_mv rfl) rfl (ow_nil (tw_lp (tw_seq (tw_region (ow_g (g_lt rfl rfl) rfl ?_)))))
 refine ow_nil (tw_seq (tw_ifT rfl (by decide) ?_))
 refine tw_skip (tw_seq (tw_block (tw_seq (tw_region (ow_g (g_mv rfl) rfl (ow_g (g_as rfl) rfl ?_))))))
 refine ow_nil (tw_still 14 mixed (by decide +kernel) (fun w55 k55 => ?_))
 replace hb1 := hb1.keep0 k55
 replace hb28 := hb28.keep0 k55
 replace hB := hB.trans k55
 refine sw_g (g_mv rfl) rfl (sw_g (g_fold (j := 3) (g_quo rfl rfl (by decide)) (by decide)) rfl ?_)
 refine sw_g (g_ixa Try.underlying104 ty24 rfl rfl (by decide)) rfl ?_
 refine sw_g (g_ldb sc24 rfl hb28 rfl) rfl ?_
 refine sw_g (g_mv rfl) rfl (sw_g (g_mv rfl) rfl (sw_g (g_ix Try.underlying22 ty5 rfl (by first | assumption | exact Own.rd ‹_› | exact Rd.keep0 ‹_› hB | exact Own.rd (Own.keep0 ‹_› hB)) rfl (by omega)) rfl ?_))
 refine sw_g (g_ldB sc5 rfl (by first | assumption | exact Own.rd ‹_› | exact Rd.keep0 ‹_› hB | exact Own.rd (Own.keep0 ‹_› hB)) (by omega)) rfl ?_
 refine sw_gx (e' := (gb xs (26))) (lo := 0) (hi := 255) (g_cv (by rw [Try.underlying5]; rfl) Try.underlying24 rfl) (wrap_fit (gb_range xs (26)) rfl) ((gb_range xs (26))) rfl (fun z107 h79 r79 => ?_)
 refine sw_g (g_mv rfl) rfl (sw_g (g_fold (j := 2) (g_rem rfl rfl (by decide)) (by decide)) rfl ?_)
 refine sw_g (g_fold (j := 16) (g_mulw rfl rfl) (by decide)) rfl ?_
 refine sw_gx (e' := z107 * 65536) (lo := 0) (hi := 16711680) (g_shlp (m := 65536) rfl rfl (by decide) rfl) (wrap_fit (in_mulc r79 (by decide)) rfl) (In.wk (in_mulc r79 (by decide)) rfl) rfl (fun z108 h80 r80 => ?_)
 refine sw_gx (e' := z105 + z108) (lo := 0) (hi := 16777215) (g_or rfl rfl) (or_join' 16 (m := 65536) r80 rfl r78 rfl rfl rfl rfl (eq_mod h80 (Int.mul_emod_left _ _)) rfl rfl) (In.wk (in_add r78 r80) rfl) rfl (fun z109 h81 r81 => ?_)
 refine sw_nil ?_
 refine ow_g (g_ixa Try.underlying104 ty24 rfl rfl (by decide)) rfl ?_
 refine ow_d0 (d_st ty24 rfl rfl rfl hb28 rfl) ?_
 rintro _ w56 ⟨hb29, k56, z110⟩
 replace hb1 := hb1.keep k56 (fun hm => absurd (List.mem_singleton.1 hm) ne_b1_b2)
 replace hB := hB.new k56 (fun x hx => .inl ((List.mem_singleton.1 hx) ▸ ge_b2))
 clear z110
 replace hb29 : Bk w56 b2 _ [.int .u64 z33, .int .u64 z65, .int .u64 z97, .int .u64 z109] := hb29
 refine ow_nil (tw_keep [(0, _), (2, _), (3, _), (6, _)] ⟨rfl, rfl, rfl, rfl, trivial⟩ ?_)
 refine tw_b (tw_region (ow_g (g_fold (j := 27) (g_addw rfl rfl) (by decide)) rfl ?_))
 refine ow_g (g_mv rfl) rfl (ow_nil (tw_lp (tw_seq (tw_region (ow_g (g_lt rfl rfl) rfl ?_)))))
 refine ow_nil (tw_seq (tw_ifT rfl (by decide) ?_))
 refine tw_skip (tw_seq (tw_block (tw_seq (tw_region (ow_g (g_mv rfl) rfl (ow_g (g_as rfl) rfl ?_))))))
 refine ow_nil (tw_still 14 mixed (by decide +kernel) (fun w57 k57 => ?_))
 replace hb1 := hb1.keep0 k57
 replace hb29 := hb29.keep0 k57
 replace hB := hB.trans k57
 refine sw_g (g_mv rfl) rfl (sw_g (g_fold (j := 3) (g_quo rfl rfl (by decide)) (by decide)) rfl ?_)
 refine sw_g (g_ixa Try.underlying104 ty24 rfl rfl (by decide)) rfl ?_
 refine sw_g (g_ldb sc24 rfl hb29 rfl) rfl ?_
 refine sw_g (g_mv rfl) rfl (sw_g (g_mv rfl) rfl (sw_g (g_ix Try.underlying22 ty5 rfl (by first | assumption | exact Own.rd ‹_› | exact Rd.keep0 ‹_› hB | exact Own.rd (Own.keep0 ‹_› hB)) rfl (by omega)) rfl ?_))
 refine sw_g (g_ldB sc5 rfl (by first | assumption | exact Own.rd ‹_› | exact Rd.keep0 ‹_› hB | exact Own.rd (Own.keep0 ‹_› hB)) (by omega)) rfl ?_
 refine sw_gx (e' := (gb xs (27))) (lo := 0) (hi := 255) (g_cv (by rw [Try.underlying5]; rfl) Try.underlying24 rfl) (wrap_fit (gb_range xs (27)) rfl) ((gb_range xs (27))) rfl (fun z111 h82 r82 => ?_)
 refine sw_g (g_mv rfl) rfl (sw_g (g_fold (j := 3) (g_rem rfl rfl (by decide)) (by decide)) rfl ?_)
 refine sw_g (g_fold (j := 24) (g_mulw rfl rfl) (by decide)) rfl ?_
 refine sw_gx (e' := z111 * 16777216) (lo := 0) (hi := 4278190080) (g_shlp (m := 16777216) rfl rfl (by decide) rfl) (wrap_fit (in_mulc r82 (by decide)) rfl) (In.wk (in_mulc r82 (by decide)) rfl) rfl (fun z112 h83 r83 => ?_)
 refine sw_gx (e' := z109 + z112) (lo := 0) (hi := 4294967295) (g_or rfl rfl) (or_join' 24 (m := 16777216) r83 rfl r81 rfl rfl rfl rfl (eq_mod h83 (Int.mul_emod_left _ _)) rfl rfl) (In.wk (in_add r81 r83) rfl) rfl (fun z113 h84 r84 => ?_)
 refine sw_nil ?_
 refine ow_g (g_ixa Try.underlying104 ty24 rfl rfl (by decide)) rfl ?_
 refine ow_d0 (d_st ty24 rfl rfl rfl hb29 rfl) ?_
 rintro _ w58 ⟨hb30, k58, z114⟩
 replace hb1 := hb1.keep k58 (fun hm => absurd (List.mem_singleton.1 hm) ne_b1_b2)
 replace hB := hB.new k58 (fun x hx => .inl ((List.mem_singleton.1 hx) ▸ ge_b2))
 clear z114
 replace hb30 : Bk w58 b2 _ [.int .u64 z33, .int .u64 z65, .int .u64 z97, .int .u64 z113] := hb30
 refine ow_nil (tw_keep [(0, _), (2, _), (3, _), (6, _)] ⟨rfl, rfl, rfl, rfl, trivial⟩ ?_)
 refine tw_b (tw_region (ow_g (g_fold (j := 28) (g_addw rfl rfl) (by decide)) rfl ?_))
 refine ow_g (g_mv rfl) rfl (ow_nil (tw_lp (tw_seq (tw_region (ow_g (g_lt rfl rfl) rfl ?_)))))
 refine ow_nil (tw_seq (tw_ifT rfl (by decide) ?_))
 refine tw_skip (tw_seq (tw_block (tw_seq (tw_region (ow_g (g_mv rfl) rfl (ow_g (g_as rfl) rfl ?_))))))
 refine ow_nil (tw_still 14 mixed (by decide +kernel) (fun w59 k59 => ?_))
 replace hb1 := hb1.keep0 k59
 replace hb30 := hb30.keep0 k59
 replace hB := hB.trans k59
 refine sw_g (g_mv rfl) rfl (sw_g (g_fold (j := 3) (g_quo rfl rfl (by decide)) (by decide)) rfl ?_)
 refine sw_g (g_ixa Try.underlying104 ty24 rfl rfl (by decide)) rfl ?_
 refine sw_g (g_ldb sc24 rfl hb30 rfl) rfl ?_
 refine sw_g (g_mv rfl) rfl (sw_g (g_mv rfl) rfl (sw_g (g_ix Try.underlying22 ty5 rfl (by first | assumption | exact Own.rd ‹_› | exact Rd.keep0 ‹_› hB | exact Own.rd (Own.keep0 ‹_› hB)) rfl (by omega)) rfl ?_))
 refine sw_g (g_ldB sc5 rfl (by first | assumption | exact Own.rd ‹_› | exact Rd.keep0 ‹_› hB | exact Own.rd (Own.keep0 ‹_› hB)) (by omega)) rfl ?_
 refine sw_gx (e' := (gb xs (28))) (lo := 0) (hi := 255) (g_cv (by rw [Try.underlying5]; rfl) Try.underlying24 rfl) (wrap_fit (gb_range xs (28)) rfl) ((gb_range xs (28))) rfl (fun z115 h85 r85 => ?_)
 refine sw_g (g_mv rfl) rfl (sw_g (g_fold (j := 4) (g_rem rfl rfl (by decide)) (by decide)) rfl ?_)
 refine sw_g (g_fold (j := 32) (g_mulw rfl rfl) (by decide)) rfl ?_
 refine sw_gx (e' := z115 * 4294967296) (lo := 0) (hi := 1095216660480) (g_shlp (m := 4294967296) rfl rfl (by decide) rfl) (wrap_fit (in_mulc r85 (by decide)) rfl) (In.wk (in_mulc r85 (by decide)) rfl) rfl (fun z116 h86 r86 => ?_)
 refine sw_gx (e' := z113 + z116) (lo := 0) (hi := 1099511627775) (g_or rfl rfl) (or_join' 32 (m := 4294967296) r86 rfl r84 rfl rfl rfl rfl (eq_mod h86 (Int.mul_emod_left _ _)) rfl rfl) (In.wk (in_add r84 r86) rfl) rfl (fun z117 h87 r87 => ?_)
 refine sw_nil ?_
 refine ow_g (g_ixa Try.underlying104 ty24 rfl rfl (by decide)) rfl ?_
 refine ow_d0 (d_st ty24 rfl rfl rfl hb30 rfl) ?_
 rintro _ w60 ⟨hb31, k60, z118⟩
 replace hb1 := hb1.keep k60 (fun hm => absurd (List.mem_singleton.1 hm) ne_b1_b2)
 replace hB := hB.new k60 (fun x hx => .inl ((List.mem_singleton.1 hx) ▸ ge_b2))
 clear z118
 replace hb31 : Bk w60 b2 _ [.int .u64 z33, .int .u64 z65, .int .u64 z97, .int .u64 z117] := hb31
 refine ow_nil (tw_keep [(0, _), (2, _), (3, _), (6, _)] ⟨rfl, rfl, rfl, rfl, trivial⟩ ?_)
 refine tw_b (tw_region (ow_g (g_fold (j := 29) (g_addw rfl rfl) (by decide)) rfl ?_))
 refine ow_g (g_mv rfl) rfl (ow_nil (tw_lp (tw_seq (tw_region (ow_g (g_lt rfl rfl) rfl ?_)))))
 refine ow_nil (tw_seq (tw_ifT rfl (by decide) ?_))
 refine tw_skip (tw_seq (tw_block (tw_seq (tw_region (ow_g (g_mv rfl) rfl (ow_g (g_as rfl) rfl ?_))))))
 refine ow_nil (tw_still 14 mixed (by decide +kernel) (fun w61 k61 => ?_))
 replace hb1 := hb1.keep0 k61
 replace hb31 := hb31.keep0 k61
 replace hB := hB.trans k61
 refine sw_g (g_mv rfl) rfl (sw_g (g_fold (j := 3) (g_quo rfl rfl (by decide)) (by decide)) rfl ?_)
 refine sw_g (g_ixa Try.underlying104 ty24 rfl rfl (by decide)) rfl ?_
 refine sw_g (g_ldb sc24 rfl hb31 rfl) rfl ?_
 refine sw_g (g_mv rfl) rfl (sw_g (g_mv rfl) rfl (sw_g (g_ix Try.underlying22 ty5 rfl (by first | assumption | exact Own.rd ‹_› | exact Rd.keep0 ‹_› hB | exact Own.rd (Own.keep0 ‹_› hB)) rfl (by omega)) rfl ?_))
 refine sw_g (g_ldB sc5 rfl (by first | assumption | exact Own.rd ‹_› | exact Rd.keep0 ‹_› hB | exact Own.rd (Own.keep0 ‹_› hB)) (by omega)) rfl ?_
 refine sw_gx (e' := (gb xs (29))) (lo := 0) (hi := 255) (g_cv (by rw [Try.underlying5]; rfl) Try.underlying24 rfl) (wrap_fit (gb_range xs (29)) rfl) ((gb_range xs (29))) rfl (fun z119 h88 r88 => ?_)
 refine sw_g (g_mv rfl) rfl (sw_g (g_fold (j := 5) (g_rem rfl rfl (by decide)) (by decide)) rfl ?_)
 refine sw_g (g_fold (j := 40) (g_mulw rfl rfl) (by decide)) rfl ?_
 refine sw_gx (e' := z119 * 1099511627776) (lo := 0) (hi := 280375465082880) (g_shlp (m := 1099511627776) rfl rfl (by decide) rfl) (wrap_fit (in_mulc r88 (by decide)) rfl) (In.wk (in_mulc r88 (by decide)) rfl) rfl (fun z120 h89 r89 => ?_)
 refine sw_gx (e' := z117 + z120) (lo := 0) (hi := 281474976710655) (g_or rfl rfl) (or_join' 40 (m := 1099511627776) r89 rfl r87 rfl rfl rfl rfl (eq_mod h89 (Int.mul_emod_left _ _)) rfl rfl) (In.wk (in_add r87 r89) rfl) rfl (fun z121 h90 r90 => ?_)
 refine sw_nil ?_
 refine ow_g (g_ixa Try.underlying104 ty24 rfl rfl (by decide)) rfl ?_
 refine ow_d0 (d_st ty24 rfl rfl rfl hb31 rfl) ?_
 rintro _ w62 ⟨hb32, k62, z122⟩
 replace hb1 := hb1.keep k62 (fun hm => absurd (List.mem_singleton.1 hm) ne_b1_b2)
 replace hB := hB.new k62 (fun x hx => .inl ((List.mem_singleton.1 hx) ▸ ge_b2))
 clear z122
 replace hb32 : Bk w62 b2 _ [.int .u64 z33, .int .u64 z65, .int .u64 z97, .int .u64 z121] := hb32
 refine ow_nil (tw_keep [(0, _), (2, _), (3, _), (6, _)] ⟨rfl, rfl, rfl, rfl, trivial⟩ ?_)
 refine tw_b (tw_region (ow_g (g_fold (j := 30) (g_addw rfl rfl) (by decide)) rfl ?_))
 refine ow_g (g_mv rfl) rfl (ow_nil (tw_lp (tw_seq (tw_region (ow_g (g_lt rfl rfl) rfl ?_)))))
 refine ow_nil (tw_seq (tw_ifT rfl (by decide) ?_))
 refine tw_skip (tw_seq (tw_block (tw_seq (tw_region (ow_g (g_mv rfl) rfl (ow_g (g_as rfl) rfl ?_))))))
 refine ow_nil (tw_still 14 mixed (by decide +kernel) (fun w63 k63 => ?_))
 replace hb1 := hb1.keep0 k63
 replace hb32 := hb32.keep0 k63
 replace hB := hB.trans k63
 refine sw_g (g_mv rfl) rfl (sw_g (g_fold (j := 3) (g_quo rfl rfl (by decide)) (by decide)) rfl ?_)
 refine sw_g (g_ixa Try.underlying104 ty24 rfl rfl (by decide)) rfl ?_
 refine sw_g (g_ldb sc24 rfl hb32 rfl) rfl ?_
 refine sw_g (g_mv rfl) rfl (sw_g (g_mv rfl) rfl (sw_g (g_ix Try.underlying22 ty5 rfl (by first | assumption | exact Own.rd ‹_› | exact Rd.keep0 ‹_› hB | exact Own.rd (Own.keep0 ‹_› hB)) rfl (by omega)) rfl ?_))
 refine sw_g (g_ldB sc5 rfl (by first | assumption | exact Own.rd ‹_› | exact Rd.keep0 ‹_› hB | exact Own.rd (Own.keep0 ‹_› hB)) (by omega)) rfl ?_
 refine sw_gx (e' := (gb xs (30))) (lo := 0) (hi := 255) (g_cv (by rw [Try.underlying5]; rfl) Try.underlying24 rfl) (wrap_fit (gb_range xs (30)) rfl) ((gb_range xs (30))) rfl (fun z123 h91 r91 => ?_)
 refine sw_g (g_mv rfl) rfl (sw_g (g_fold (j := 6) (g_rem rfl rfl (by decide)) (by decide)) rfl ?_)
 refine sw_g (g_fold (j := 48) (g_mulw rfl rfl) (by decide)) rfl ?_
 refine sw_gx (e' := z123 * 281474976710656) (lo := 0) (hi := 71776119061217280) (g_shlp (m := 281474976710656) rfl rfl (by decide) rfl) (wrap_fit (in_mulc r91 (by decide)) rfl) (In.wk (in_mulc r91 (by decide)) rfl) rfl (fun z124 h92 r92 => ?_)
 refine sw_gx (e' := z121 + z124) (lo := 0) (hi := 72057594037927935) (g_or rfl rfl) (or_join' 48 (m := 281474976710656) r92 rfl r90 rfl rfl rfl rfl (eq_mod h92 (Int.mul_emod_left _ _)) rfl rfl) (In.wk (in_add r90 r92) rfl) rfl (fun z125 h93 r93 => ?_)
 refine sw_nil ?_
 refine ow_g (g_ixa Try.underlying104 ty24 rfl rfl (by decide)) rfl ?_
 refine ow_d0 (d_st ty24 rfl rfl rfl hb32 rfl) ?_
 rintro _ w64 ⟨hb33, k64, z126⟩
 replace hb1 := hb1.keep k64 (fun hm => absurd (List.mem_singleton.1 hm) ne_b1_b2)
 replace hB := hB.new k64 (fun x hx => .inl ((List.mem_singleton.1 hx) ▸ ge_b2))
 clear z126
 replace hb33 : Bk w64 b2 _ [.int .u64 z33, .int .u64 z65, .int .u64 z97, .int .u64 z125] := hb33
 refine ow_nil (tw_keep [(0, _), (2, _), (3, _), (6, _)] ⟨rfl, rfl, rfl, rfl, trivial⟩ ?_)
 refine tw_b (tw_region (ow_g (g_fold (j := 31) (g_addw rfl rfl) (by decide)) rfl ?_))
 refine ow_g (g_mv rfl) rfl (ow_nil (tw_lp (tw_seq (tw_region (ow_g (g_lt rfl rfl) rfl ?_)))))
 refine ow_nil (tw_seq (tw_ifT rfl (by decide) ?_))
 refine tw_skip (tw_seq (tw_block (tw_seq (tw_region (ow_g (g_mv rfl) rfl (ow_g (g_as rfl) rfl ?_))))))
 refine ow_nil (tw_still 14 mixed (by decide +kernel) (fun w65 k65 => ?_))
 replace hb1 := hb1.keep0 k65
 replace hb33 := hb33.keep0 k65
 replace hB := hB.trans k65
 refine sw_g (g_mv rfl) rfl (sw_g (g_fold (j := 3) (g_quo rfl rfl (by decide)) (by decide)) rfl ?_)
 refine sw_g (g_ixa Try.underlying104 ty24 rfl rfl (by decide)) rfl ?_
 refine sw_g (g_ldb sc24 rfl hb33 rfl) rfl ?_
 refine sw_g (g_mv rfl) rfl (sw_g (g_mv rfl) rfl (sw_g (g_ix Try.underlying22 ty5 rfl (by first | assumption | exact Own.rd ‹_› | exact Rd.keep0 ‹_› hB | exact Own.rd (Own.keep0 ‹_› hB)) rfl (by omega)) rfl ?_))
 refine sw_g (g_ldB sc5 rfl (by first | assumption | exact Own.rd ‹_› | exact Rd.keep0 ‹_› hB | exact Own.rd (Own.keep0 ‹_› hB)) (by omega)) rfl ?_
 refine sw_gx (e' := (gb xs (31))) (lo := 0) (hi := 255) (g_cv (by rw [Try.underlying5]; rfl) Try.underlying24 rfl) (wrap_fit (gb_range xs (31)) rfl) ((gb_range xs (31))) rfl (fun z127 h94 r94 => ?_)
 refine sw_g (g_mv rfl) rfl (sw_g (g_fold (j := 7) (g_rem rfl rfl (by decide)) (by decide)) rfl ?_)
 refine sw_g (g_fold (j := 56) (g_mulw rfl rfl) (by decide)) rfl ?_
 refine sw_gx (e' := z127 * 72057594037927936) (lo := 0) (hi := 18374686479671623680) (g_shlp (m := 72057594037927936) rfl rfl (by decide) rfl) (wrap_fit (in_mulc r94 (by decide)) rfl) (In.wk (in_mulc r94 (by decide)) rfl) rfl (fun z128 h95 r95 => ?_)
 refine sw_gx (e' := z125 + z128) (lo := 0) (hi := 18446744073709551615) (g_or rfl rfl) (or_join' 56 (m := 72057594037927936) r95 rfl r93 rfl rfl rfl rfl (eq_mod h95 (Int.mul_emod_left _ _)) rfl rfl) (In.wk (in_add r93 r95) rfl) rfl (fun z129 h96 r96 => ?_)
 refine sw_nil ?_
 refine ow_g (g_ixa Try.underlying104 ty24 rfl rfl (by decide)) rfl ?_
 refine ow_d0 (d_st ty24 rfl rfl rfl hb33 rfl) ?_
 rintro _ w66 ⟨hb34, k66, z130⟩
 replace hb1 := hb1.keep k66 (fun hm => absurd (List.mem_singleton.1 hm) ne_b1_b2)
 replace hB := hB.new k66 (fun x hx => .inl ((List.mem_singleton.1 hx) ▸ ge_b2))
 clear z130
 replace hb34 : Bk w66 b2 _ [.int .u64 z33, .int .u64 z65, .int .u64 z97, .int .u64 z129] := hb34
 refine ow_nil (tw_keep [(0, _), (2, _), (3, _), (6, _)] ⟨rfl, rfl, rfl, rfl, trivial⟩ ?_)
 refine tw_b (tw_region (ow_g (g_fold (j := 32) (g_addw rfl rfl) (by decide)) rfl ?_))
 refine ow_g (g_mv rfl) rfl (ow_nil (tw_lp (tw_seq (tw_region (ow_g (g_lt rfl rfl) rfl ?_)))))
 refine ow_nil (tw_seq (tw_ifF rfl (by decide) ?_))
 refine tw_exit rfl ?_
 refine tw_seq (tw_region (ow_g (g_ixa Try.underlying104 ty24 rfl rfl (by decide)) rfl ?_))
 refine ow_g (g_ldb sc24 rfl hb34 rfl) rfl ?_
 refine ow_gx (e' := z33 % 2251799813685248) (lo := 0) (hi := 2251799813685247) (g_and rfl rfl) (and_mod 51 r24 rfl rfl rfl rfl rfl rfl) (In.wk (in_mod _ (by decide)) rfl) rfl (fun z131 h97 r97 => ?_)
 refine ow_g (g_ixa Try.underlying104 ty24 rfl rfl (by decide)) rfl ?_
 refine ow_g (g_ldb sc24 rfl hb34 rfl) rfl ?_
 refine ow_gx (e' := z33 / 2251799813685248) (lo := 0) (hi := 8191) (g_shrp (m := 2251799813685248) rfl rfl (by decide) rfl) (rfl) (In.wk (in_div r24 (by decide)) rfl) rfl (fun z132 h98 r98 => ?_)
 refine ow_g (g_ixa Try.underlying104 ty24 rfl rfl (by decide)) rfl ?_
 refine ow_g (g_ldb sc24 rfl hb34 rfl) rfl ?_
 refine ow_gx (e' := (z65 * 8192) % 18446744073709551616) (lo := 0) (hi := 18446744073709551615) (g_shlp (m := 8192) rfl rfl (by decide) rfl) (wrap_uns rfl _) (In.wk (in_mod _ (by decide)) rfl) rfl (fun z133 h99 r99 => ?_)
 refine ow_gx (e' := z132 + z133) (lo := 0) (hi := 18446744073709551615) (g_or rfl rfl) (or_join' 13 (m := 8192) r99 rfl r98 rfl rfl rfl rfl (eq_mod h99 (mul_mod_mod _ (by decide))) rfl rfl) (In.wk (or_in (k := .u64) rfl (or_join' 13 (m := 8192) r99 rfl r98 rfl rfl rfl rfl (eq_mod h99 (mul_mod_mod _ (by decide))) rfl rfl)) rfl) rfl (fun z134 h100 r100 => ?_)
 refine ow_gx (e' := z134 % 2251799813685248) (lo := 0) (hi := 2251799813685247) (g_and rfl rfl) (and_mod 51 r100 rfl rfl rfl rfl rfl rfl) (In.wk (in_mod _ (by decide)) rfl) rfl (fun z135 h101 r101 => ?_)
 refine ow_g (g_ixa Try.underlying104 ty24 rfl rfl (by decide)) rfl ?_
 refine ow_g (g_ldb sc24 rfl hb34 rfl) rfl ?_
 refine ow_gx (e' := z65 / 274877906944) (lo := 0) (hi := 67108863) (g_shrp (m := 274877906944) rfl rfl (by decide) rfl) (rfl) (In.wk (in_div r48 (by decide)) rfl) rfl (fun z136 h102 r102 => ?_)
 refine ow_g (g_ixa Try.underlying104 ty24 rfl rfl (by decide)) rfl ?_
 refine ow_g (g_ldb sc24 rfl hb34 rfl) rfl ?_
 refine ow_gx (e' := (z97 * 67108864) % 18446744073709551616) (lo := 0) (hi := 18446744073709551615) (g_shlp (m := 67108864) rfl rfl (by decide) rfl) (wrap_uns rfl _) (In.wk (in_mod _ (by decide)) rfl) rfl (fun z137 h103 r103 => ?_)
 refine ow_gx (e' := z136 + z137) (lo := 0) (hi := 18446744073709551615) (g_or rfl rfl) (or_join' 26 (m := 67108864) r103 rfl r102 rfl rfl rfl rfl (eq_mod h103 (mul_mod_mod _ (by decide))) rfl rfl) (In.wk (or_in (k := .u64) rfl (or_join' 26 (m := 67108864) r103 rfl r102 rfl rfl rfl rfl (eq_mod h103 (mul_mod_mod _ (by decide))) rfl rfl)) rfl) rfl (fun z138 h104 r104 => ?_)
 refine ow_gx (e' := z138 % 2251799813685248) (lo := 0) (hi := 2251799813685247) (g_and rfl rfl) (and_mod 51 r104 rfl rfl rfl rfl rfl rfl) (In.wk (in_mod _ (by decide)) rfl) rfl (fun z139 h105 r105 => ?_)
 refine ow_g (g_ixa Try.underlying104 ty24 rfl rfl (by decide)) rfl ?_
 refine ow_g (g_ldb sc24 rfl hb34 rfl) rfl ?_
 refine ow_gx (e' := z97 / 33554432) (lo := 0) (hi := 549755813887) (g_shrp (m := 33554432) rfl rfl (by decide) rfl) (rfl) (In.wk (in_div r72 (by decide)) rfl) rfl (fun z140 h106 r106 => ?_)
 refine ow_g (g_ixa Try.underlying104 ty24 rfl rfl (by decide)) rfl ?_
 refine ow_g (g_ldb sc24 rfl hb34 rfl) rfl ?_
 refine ow_gx (e' := (z129 * 549755813888) % 18446744073709551616) (lo := 0) (hi := 18446744073709551615) (g_shlp (m := 549755813888) rfl rfl (by decide) rfl) (wrap_uns rfl _) (In.wk (in_mod _ (by decide)) rfl) rfl (fun z141 h107 r107 => ?_)
 refine ow_gx (e' := z140 + z141) (lo := 0) (hi := 18446744073709551615) (g_or rfl rfl) (or_join' 39 (m := 549755813888) r107 rfl r106 rfl rfl rfl rfl (eq_mod h107 (mul_mod_mod _ (by decide))) rfl rfl) (In.wk (or_in (k := .u64) rfl (or_join' 39 (m := 549755813888) r107 rfl r106 rfl rfl rfl rfl (eq_mod h107 (mul_mod_mod _ (by decide))) rfl rfl)) rfl) rfl (fun z142 h108 r108 => ?_)
 refine ow_gx (e' := z142 % 2251799813685248) (lo := 0) (hi := 2251799813685247) (g_and rfl rfl) (and_mod 51 r108 rfl rfl rfl rfl rfl rfl) (In.wk (in_mod _ (by decide)) rfl) rfl (fun z143 h109 r109 => ?_)
 refine ow_g (g_ixa Try.underlying104 ty24 rfl rfl (by decide)) rfl ?_
 refine ow_g (g_ldb sc24 rfl hb34 rfl) rfl ?_
 refine ow_gx (e' := z129 / 4096) (lo := 0) (hi := 4503599627370495) (g_shrp (m := 4096) rfl rfl (by decide) rfl) (rfl) (In.wk (in_div r96 (by decide)) rfl) rfl (fun z144 h110 r110 => ?_)
 refine ow_gx (e' := z144 % 2251799813685248) (lo := 0) (hi := 2251799813685247) (g_and rfl rfl) (and_mod 51 r110 rfl rfl rfl rfl rfl rfl) (In.wk (in_mod _ (by decide)) rfl) rfl (fun z145 h111 r111 => ?_)
 refine ow_g (g_blda (idx := [0, 1, 2, 3, 4]) (xs := [.tmp 27, .tmp 35, .tmp 43, .tmp 51, .tmp 55]) (vs := [_, _, _, _, _]) (css := [[.int .u64 z131], [.int .u64 z135], [.int .u64 z139], [.int .u64 z143], [.int .u64 z145]]) (out := [.int .u64 z131, .int .u64 z135, .int .u64 z139, .int .u64 z143, .int .u64 z145]) Try.underlying26 ty24 ty26 (arr_pls 5 1) rfl rfl ⟨rfl, rfl, rfl, rfl, rfl, trivial⟩ rfl rfl) rfl ?_
 refine ow_d (d_alloc ty26) rfl ?_
 rintro _ w67 ⟨b3, rfl, eb3, hb35, k67, z146⟩
 have ge_b3 : w.heap.size ≤ b3 := by have := hB.size; omega
 have ne_b1_b3 : b1 ≠ b3 := by have := hb1.lt; omega
 have ne_b2_b3 : b2 ≠ b3 := by have := hb34.lt; omega
 replace hb1 := hb1.keep0 k67
 replace hb34 := hb34.keep0 k67
 replace hB := hB.trans k67
 clear eb3 z146
 refine ow_d0 (d_sta ty26 rfl rfl rfl (by simp only [List.forall_mem_cons]; refine ⟨rfl, rfl, rfl, rfl, rfl, fun v hv => by cases hv⟩) hb35 rfl) ?_
 rintro _ w68 ⟨hb36, k68, z147⟩
 replace hb1 := hb1.keep k68 (fun hm => absurd (List.mem_singleton.1 hm) ne_b1_b3)
 replace hb34 := hb34.keep k68 (fun hm => absurd (List.mem_singleton.1 hm) ne_b2_b3)
 replace hB := hB.new k68 (fun x hx => .inl ((List.mem_singleton.1 hx) ▸ ge_b3))
 clear z147
 replace hb36 : Bk w68 b3 _ [.int .u64 z131, .int .u64 z135, .int .u64 z139, .int .u64 z143, .int .u64 z145] := hb36
 refine ow_nil (tw_seq (tw_region (ow_g (g_ixa Try.underlying26 ty24 rfl rfl (by decide)) rfl ?_)))
 refine ow_g (g_ldb sc24 rfl hb36 rfl) rfl ?_
 refine ow_g (g_ixa Try.underlying104 ty24 rfl rfl (by decide)) rfl ?_
 refine ow_g (g_ldb sc24 rfl hb34 rfl) rfl ?_
 refine ow_gx (e' := z129 / 9223372036854775808) (lo := 0) (hi := 1) (g_shrp (m := 9223372036854775808) rfl rfl (by decide) rfl) (rfl) (In.wk (in_div r96 (by decide)) rfl) rfl (fun z148 h112 r112 => ?_)
 refine ow_gx (e' := 19 * z148) (lo := 0) (hi := 19) (g_mulw rfl rfl) (wrap_fit (in_cmul r112 (by decide)) rfl) (In.wk (in_cmul r112 (by decide)) rfl) rfl (fun z149 h113 r113 => ?_)
 refine ow_gx (e' := z131 + z149) (lo := 0) (hi := 2251799813685266) (g_addw rfl rfl) (wrap_fit (in_add r97 r113) rfl) (In.wk (in_add r97 r113) rfl) rfl (fun z150 h114 r114 => ?_)
 refine ow_g (g_ixa Try.underlying26 ty24 rfl rfl (by decide)) rfl ?_
 refine ow_d0 (d_st ty24 rfl rfl rfl hb36 rfl) ?_
 rintro _ w69 ⟨hb37, k69, z151⟩
 replace hb1 := hb1.keep k69 (fun hm => absurd (List.mem_singleton.1 hm) ne_b1_b3)
 replace hb34 := hb34.keep k69 (fun hm => absurd (List.mem_singleton.1 hm) ne_b2_b3)
 replace hB := hB.new k69 (fun x hx => .inl ((List.mem_singleton.1 hx) ▸ ge_b3))
 clear z151
 replace hb37 : Bk w69 b3 _ [.int .u64 z150, .int .u64 z135, .int .u64 z139, .int .u64 z143, .int .u64 z145] := hb37
 refine ow_nil (tw_keep [(2, _), (5, _)] ⟨rfl, rfl, trivial⟩ ?_)
 refine tw_seq (tw_region (ow_g (g_ldab (cs' := [_, _, _, _, _]) ag26 ty26 rfl hb37 rfl rfl) rfl ?_))
 refine ow_d (d_call (vs := [_]) rfl (carry_any (vecN [z150, z135, z139, z143, z145]) (In.wk r114 rfl) (In.wk r101 rfl) (In.wk r105 rfl) (In.wk r109 rfl) (In.wk r111 rfl) _)) rfl ?_
 rintro _ w70 ⟨hh1, c01, c11, c21, c31, c41, rfl, e01, e11, e21, e31, e41, g01, g11, g21, g31, g41, gv1, k70⟩
 replace hb1 := hb1.keep0 k70
 replace hb37 := hb37.keep0 k70
 replace hB := hB.trans k70
 replace e01 : c01 = z150 / 2251799813685248 := e01
 replace e11 : c11 = (z135 + c01) / 2251799813685248 := e11
 replace e21 : c21 = (z139 + c11) / 2251799813685248 := e21
 replace e31 : c31 = (z143 + c21) / 2251799813685248 := e31
 replace e41 : c41 = (z145 + c31) / 2251799813685248 := e41
 replace g01 : hh1 0 = z150 % 2251799813685248 + 19 * c41 := g01
 replace g11 : hh1 1 = (z135 + c01) % 2251799813685248 := g11
 replace g21 : hh1 2 = (z139 + c11) % 2251799813685248 := g21
 replace g31 : hh1 3 = (z143 + c21) % 2251799813685248 := g31
 replace g41 : hh1 4 = (z145 + c31) % 2251799813685248 := g41
 replace gv1 : val5 hh1 + c41 * 57896044618658097711785492504343953926634992332820282019728792003956564819949 = z150 + z135 * 2251799813685248 + z139 * 5070602400912917605986812821504 + z143 * 11417981541647679048466287755595961091061972992 + z145 * 25711008708143844408671393477458601640355247900524685364822016 := gv1
 obtain ⟨r115, r116, r117, r118, r119⟩ := carry_bounds (t := 2251799813685266) e01 e11 e21 e31 e41 g01 g11 g21 g31 g41 (In.wk r114 rfl : In _ 0 2251799813685266) (In.wk r101 rfl : In _ 0 2251799813685247) (In.wk r105 rfl : In _ 0 2251799813685247) (In.wk r109 rfl : In _ 0 2251799813685247) (In.wk r111 rfl : In _ 0 2251799813685247) rfl
 refine ow_d0 (d_sta ty26 rfl rfl rfl ivF_one hb1 rfl) ?_
 rintro _ w71 ⟨hb38, k71, z152⟩
 replace hb37 := hb37.keep k71 (fun hm => absurd (List.mem_singleton.1 hm) (Ne.symm ne_b1_b3))
 replace hB := hB.new k71 (fun x hx => .inl ((List.mem_singleton.1 hx) ▸ ge_b1))
 clear z152
 replace hb38 : Bk w71 b1 _ [.int .u64 (hh1 0), .int .u64 (hh1 1), .int .u64 (hh1 2), .int .u64 (hh1 3), .int .u64 (hh1 4)] := hb38
 refine ow_nil (tw_retc hfin Try.results67 rfl (run_loadAgg ag26 ty26 ‹_› rfl)  ?_)
 have l0 : leI (xs.drop 0) = gb xs 0 + 256 * leI (xs.drop 1) := leI_drop xs 0 (by omega)
 have l1 : leI (xs.drop 1) = gb xs 1 + 256 * leI (xs.drop 2) := leI_drop xs 1 (by omega)
 have l2 : leI (xs.drop 2) = gb xs 2 + 256 * leI (xs.drop 3) := leI_drop xs 2 (by omega)
 have l3 : leI (xs.drop 3) = gb xs 3 + 256 * leI (xs.drop 4) := leI_drop xs 3 (by omega)
 have l4 : leI (xs.drop 4) = gb xs 4 + 256 * leI (xs.drop 5) := leI_drop xs 4 (by omega)
 have l5 : leI (xs.drop 5) = gb xs 5 + 256 * leI (xs.drop 6) := leI_drop xs 5 (by omega)
 have l6 : leI (xs.drop 6) = gb xs 6 + 256 * leI (xs.drop 7) := leI_drop xs 6 (by omega)
 have l7 : leI (xs.drop 7) = gb xs 7 + 256 * leI (xs.drop 8) := leI_drop xs 7 (by omega)
 have l8 : leI (xs.drop 8) = gb xs 8 + 256 * leI (xs.drop 9) := leI_drop xs 8 (by omega)
 have l9 : leI (xs.drop 9) = gb xs 9 + 256 * leI (xs.drop 10) := leI_drop xs 9 (by omega)
 have l10 : leI (xs.drop 10) = gb xs 10 + 256 * leI (xs.drop 11) := leI_drop xs 10 (by omega)
 have l11 : leI (xs.drop 11) = gb xs 11 + 256 * leI (xs.drop 12) := leI_drop xs 11 (by omega)
 have l12 : leI (xs.drop 12) = gb xs 12 + 256 * leI (xs.drop 13) := leI_drop xs 12 (by omega)
 have l13 : leI (xs.drop 13) = gb xs 13 + 256 * leI (xs.drop 14) := leI_drop xs 13 (by omega)
 have l14 : leI (xs.drop 14) = gb xs 14 + 256 * leI (xs.drop 15) := leI_drop xs 14 (by omega)
 have l15 : leI (xs.drop 15) = gb xs 15 + 256 * leI (xs.drop 16) := leI_drop xs 15 (by omega)
 have l16 : leI (xs.drop 16) = gb xs 16 + 256 * leI (xs.drop 17) := leI_drop xs 16 (by omega)
 have l17 : leI (xs.drop 17) = gb xs 17 + 256 * leI (xs.drop 18) := leI_drop xs 17 (by omega)
 have l18 : leI (xs.drop 18) = gb xs 18 + 256 * leI (xs.drop 19) := leI_drop xs 18 (by omega)
 have l19 : leI (xs.drop 19) = gb xs 19 + 256 * leI (xs.drop 20) := leI_drop xs 19 (by omega)
 have l20 : leI (xs.drop 20) = gb xs 20 + 256 * leI (xs.drop 21) := leI_drop xs 20 (by omega)
 have l21 : leI (xs.drop 21) = gb xs 21 + 256 * leI (xs.drop 22) := leI_drop xs 21 (by omega)
 have l22 : leI (xs.drop 22) = gb xs 22 + 256 * leI (xs.drop 23) := leI_drop xs 22 (by omega)
 have l23 : leI (xs.drop 23) = gb xs 23 + 256 * leI (xs.drop 24) := leI_drop xs 23 (by omega)
 have l24 : leI (xs.drop 24) = gb xs 24 + 256 * leI (xs.drop 25) := leI_drop xs 24 (by omega)
 have l25 : leI (xs.drop 25) = gb xs 25 + 256 * leI (xs.drop 26) := leI_drop xs 25 (by omega)
 have l26 : leI (xs.drop 26) = gb xs 26 + 256 * leI (xs.drop 27) := leI_drop xs 26 (by omega)
 have l27 : leI (xs.drop 27) = gb xs 27 + 256 * leI (xs.drop 28) := leI_drop xs 27 (by omega)
 have l28 : leI (xs.drop 28) = gb xs 28 + 256 * leI (xs.drop 29) := leI_drop xs 28 (by omega)
 have l29 : leI (xs.drop 29) = gb xs 29 + 256 * leI (xs.drop 30) := leI_drop xs 29 (by omega)
 have l30 : leI (xs.drop 30) = gb xs 30 + 256 * leI (xs.drop 31) := leI_drop xs 30 (by omega)
 have l31 : leI (xs.drop 31) = gb xs 31 + 256 * leI (xs.drop 32) := leI_drop xs 31 (by omega)
 have l32 := leI_end xs 32 (by omega)
 rw [List.drop_zero] at l0
 have w0 : Eqn z33 (gb xs 0 * 1 + gb xs 1 * 256 + gb xs 2 * 65536 + gb xs 3 * 16777216 + gb xs 4 * 4294967296 + gb xs 5 * 1099511627776 + gb xs 6 * 281474976710656 + gb xs 7 * 72057594037927936) := by simp only [Eqn] at h24 h23 h22 h21 h20 h19 h18 h17 h16 h15 h14 h13 h12 h11 h10 h9 h8 h7 h6 h5 h4 h3 h2 h1; unfold Eqn; omega
 have w1 : Eqn z65 (gb xs 8 * 1 + gb xs 9 * 256 + gb xs 10 * 65536 + gb xs 11 * 16777216 + gb xs 12 * 4294967296 + gb xs 13 * 1099511627776 + gb xs 14 * 281474976710656 + gb xs 15 * 72057594037927936) := by simp only [Eqn] at h48 h47 h46 h45 h44 h43 h42 h41 h40 h39 h38 h37 h36 h35 h34 h33 h32 h31 h30 h29 h28 h27 h26 h25; unfold Eqn; omega
 have w2 : Eqn z97 (gb xs 16 * 1 + gb xs 17 * 256 + gb xs 18 * 65536 + gb xs 19 * 16777216 + gb xs 20 * 4294967296 + gb xs 21 * 1099511627776 + gb xs 22 * 281474976710656 + gb xs 23 * 72057594037927936) := by simp only [Eqn] at h72 h71 h70 h69 h68 h67 h66 h65 h64 h63 h62 h61 h60 h59 h58 h57 h56 h55 h54 h53 h52 h51 h50 h49; unfold Eqn; omega
 have w3 : Eqn z129 (gb xs 24 * 1 + gb xs 25 * 256 + gb xs 26 * 65536 + gb xs 27 * 16777216 + gb xs 28 * 4294967296 + gb xs 29 * 1099511627776 + gb xs 30 * 281474976710656 + gb xs 31 * 72057594037927936) := by simp only [Eqn] at h96 h95 h94 h93 h92 h91 h90 h89 h88 h87 h86 h85 h84 h83 h82 h81 h80 h79 h78 h77 h76 h75 h74 h73; unfold Eqn; omega
 have hW : leI xs = z33 + z65 * 18446744073709551616 + z97 * 340282366920938463463374607431768211456 + z129 * 6277101735386680763835789423207666416102355444464034512896 := by simp only [Eqn] at w0 w1 w2 w3; omega
 clear l0 l1 l2 l3 l4 l5 l6 l7 l8 l9 l10 l11 l12 l13 l14 l15 l16 l17 l18 l19 l20 l21 l22 l23 l24 l25 l26 l27 l28 l29 l30 l31 l32
 exact ⟨hh1, rfl, ⟨(In.wk r115 rfl), (In.wk r116 rfl), (In.wk r117 rfl), (In.wk r118 rfl), (In.wk r119 rfl), by rw [fp_eq (b := leI xs) (-(c41 + (z129 / 9223372036854775808))) (by have hg := get_val (In.wk r24 rfl) (In.wk r48 rfl) (In.wk r72 rfl) (In.wk r96 rfl); have gv := gv1; clear e01 e11 e21 e31 e41 g01 g11 g21 g31 g41; simp only [Eqn] at h111 h110 h109 h108 h107 h106 h105 h104 h103 h102 h101 h100 h99 h98 h114 h113 h112 h97; subst h114 h113 h112 h111 h110 h109 h108 h107 h106 h105 h104 h103 h102 h101 h100 h99 h98 h97; omega)]⟩, hB⟩
end Go.Proofs.Ytkngeapegpehpaa.W
