/- Contracts and laws, part 2 of 6: what each function of the program and of the reference computes, shown once. -/
import Derived.Stop.BytesEq
import Derived.Test.YtkngeapegpehpaaQga
namespace Go.Proofs.Ytkngeapegpehpaa.W
open Go Go.Eng Go.Byt
set_option linter.unusedVariables false
set_option linter.unusedSimpArgs false
open Go.Fld Go.Ed
theorem add64_run (x y c : Int) (hx : In x 0 18446744073709551615) (hy : In y 0 18446744073709551615) (hc : In c 0 1) (w : World) :
    (callFunc 62 #[.int .u64 x, .int .u64 y, .int .u64 c]).run Try.prog w = .ok (.value (.tuple #[.int .u64 ((x + y + c) % 18446744073709551616), .int .u64 ((x + y + c) / 18446744073709551616)])) w := by
  rw [run_callFunc_extern Try.func62 (by kernel_rfl) (by kernel_rfl) (by kernel_rfl) (e := add64Entry) (by kernel_rfl), run_add64 x y c hx.1 hy.1 hc.1 hc.2]
  simp only [Result.andThen]
theorem mul_split {x y x0 x1 y0 y1 : Int} (h0 : x0 = x % 4294967296) (h1 : x1 = x / 4294967296) (h2 : y0 = y % 4294967296) (h3 : y1 = y / 4294967296) : x * y = x1 * y1 * 18446744073709551616 + (x1 * y0 + x0 * y1) * 4294967296 + x0 * y0 := by
  have e1 : x = x1 * 4294967296 + x0 := by omega
  have e2 : y = y1 * 4294967296 + y0 := by omega
  rw [e1, e2]; grind -lia -linarith
set_option maxRecDepth 100000 in
theorem mul64_any (x y : Int) (hx : In x 0 18446744073709551615) (hy : In y 0 18446744073709551615) (w : World) : Rets Try.prog 61 [.int .u64 x, .int .u64 y] w (fun v w' => v = .tuple #[.int .u64 (x * y / 18446744073709551616), .int .u64 (x * y % 18446744073709551616)] ∧ w = w') := by
 refine rets_of_tw Try.func61 rfl (by decide) Try.ntmps61 rfl (fun fin _ hfin => ?_)
 refine tw_seq (tw_region (ow_g (g_as rfl) rfl (ow_g (g_as rfl) rfl (ow_nil (tw_seq (tw_region ?_))))))
 refine ow_g (g_mv rfl) rfl (ow_gx (e' := x % 4294967296) (lo := 0) (hi := 4294967295) (g_and rfl rfl) (and_mod 32 hx rfl rfl rfl rfl rfl rfl) (In.wk (in_mod _ (by decide)) rfl) rfl (fun z1 h1 r1 => ?_))
 refine ow_g (g_as rfl) rfl (ow_nil (tw_seq (tw_region (ow_g (g_mv rfl) rfl (ow_gx (e' := x / 4294967296) (lo := 0) (hi := 4294967295) (g_shrp (m := 4294967296) rfl rfl (by decide) rfl) (rfl) (In.wk (in_div hx (by decide)) rfl) rfl (fun z2 h2 r2 => ?_))))))
 refine ow_g (g_as rfl) rfl (ow_nil (tw_seq (tw_region (ow_g (g_mv rfl) rfl (ow_gx (e' := y % 4294967296) (lo := 0) (hi := 4294967295) (g_and rfl rfl) (and_mod 32 hy rfl rfl rfl rfl rfl rfl) (In.wk (in_mod _ (by decide)) rfl) rfl (fun z3 h3 r3 => ?_))))))
 refine ow_g (g_as rfl) rfl (ow_nil (tw_seq (tw_region (ow_g (g_mv rfl) rfl (ow_gx (e' := y / 4294967296) (lo := 0) (hi := 4294967295) (g_shrp (m := 4294967296) rfl rfl (by decide) rfl) (rfl) (In.wk (in_div hy (by decide)) rfl) rfl (fun z4 h4 r4 => ?_))))))
 refine ow_g (g_as rfl) rfl (ow_nil (tw_seq (tw_region (ow_g (g_mv rfl) rfl (ow_g (g_mv rfl) rfl (ow_gx (e' := z1 * z3) (lo := 0) (hi := 18446744065119617025) (g_mulw rfl rfl) (wrap_fit (in_mul r1 r3 (by decide) (by decide)) rfl) (In.wk (in_mul r1 r3 (by decide) (by decide)) rfl) rfl (fun z5 h5 r5 => ?_)))))))
 refine ow_g (g_as rfl) rfl (ow_nil (tw_seq (tw_region (ow_g (g_mv rfl) rfl (ow_g (g_mv rfl) rfl (ow_gx (e' := z2 * z3) (lo := 0) (hi := 18446744065119617025) (g_mulw rfl rfl) (wrap_fit (in_mul r2 r3 (by decide) (by decide)) rfl) (In.wk (in_mul r2 r3 (by decide) (by decide)) rfl) rfl (fun z6 h6 r6 => ?_)))))))
 refine ow_g (g_mv rfl) rfl (ow_gx (e' := z5 / 4294967296) (lo := 0) (hi := 4294967294) (g_shrp (m := 4294967296) rfl rfl (by decide) rfl) (rfl) (In.wk (in_div r5 (by decide)) rfl) rfl (fun z7 h7 r7 => ?_))
 refine ow_gx (e' := z6 + z7) (lo := 0) (hi := 18446744069414584319) (g_addw rfl rfl) (wrap_fit (in_add r6 r7) rfl) (In.wk (in_add r6 r7) rfl) rfl (fun z8 h8 r8 => ?_)
 refine ow_g (g_as rfl) rfl (ow_nil (tw_seq (tw_region (ow_g (g_mv rfl) rfl (ow_gx (e' := z8 % 4294967296) (lo := 0) (hi := 4294967295) (g_and rfl rfl) (and_mod 32 r8 rfl rfl rfl rfl rfl rfl) (In.wk (in_mod _ (by decide)) rfl) rfl (fun z9 h9 r9 => ?_))))))
 refine ow_g (g_as rfl) rfl (ow_nil (tw_seq (tw_region (ow_g (g_mv rfl) rfl (ow_gx (e' := z8 / 4294967296) (lo := 0) (hi := 4294967294) (g_shrp (m := 4294967296) rfl rfl (by decide) rfl) (rfl) (In.wk (in_div r8 (by decide)) rfl) rfl (fun z10 h10 r10 => ?_))))))
 refine ow_g (g_as rfl) rfl (ow_nil (tw_seq (tw_region (ow_g (g_mv rfl) rfl (ow_g (g_mv rfl) rfl (ow_g (g_mv rfl) rfl ?_))))))
 refine ow_gx (e' := z1 * z4) (lo := 0) (hi := 18446744065119617025) (g_mulw rfl rfl) (wrap_fit (in_mul r1 r4 (by decide) (by decide)) rfl) (In.wk (in_mul r1 r4 (by decide) (by decide)) rfl) rfl (fun z11 h11 r11 => ?_)
 refine ow_gx (e' := z9 + z11) (lo := 0) (hi := 18446744069414584320) (g_addw rfl rfl) (wrap_fit (in_add r9 r11) rfl) (In.wk (in_add r9 r11) rfl) rfl (fun z12 h12 r12 => ?_)
 refine ow_g (g_as rfl) rfl (ow_nil (tw_seq (tw_region (ow_g (g_mv rfl) rfl (ow_g (g_mv rfl) rfl (ow_gx (e' := z2 * z4) (lo := 0) (hi := 18446744065119617025) (g_mulw rfl rfl) (wrap_fit (in_mul r2 r4 (by decide) (by decide)) rfl) (In.wk (in_mul r2 r4 (by decide) (by decide)) rfl) rfl (fun z13 h13 r13 => ?_)))))))
 refine ow_g (g_mv rfl) rfl (ow_gx (e' := z13 + z10) (lo := 0) (hi := 18446744069414584319) (g_addw rfl rfl) (wrap_fit (in_add r13 r10) rfl) (In.wk (in_add r13 r10) rfl) rfl (fun z14 h14 r14 => ?_))
 refine ow_g (g_mv rfl) rfl (ow_gx (e' := z12 / 4294967296) (lo := 0) (hi := 4294967295) (g_shrp (m := 4294967296) rfl rfl (by decide) rfl) (rfl) (In.wk (in_div r12 (by decide)) rfl) rfl (fun z15 h15 r15 => ?_))
 refine ow_gx (e' := z14 + z15) (lo := 0) (hi := 18446744073709551614) (g_addw rfl rfl) (wrap_fit (in_add r14 r15) rfl) (In.wk (in_add r14 r15) rfl) rfl (fun z16 h16 r16 => ?_)
 refine ow_g (g_as rfl) rfl (ow_nil (tw_seq (tw_region (ow_g (g_mv rfl) rfl (ow_g (g_mv rfl) rfl (ow_gx (e' := (x * y) % 18446744073709551616) (lo := 0) (hi := 18446744073709551615) (g_mulw rfl rfl) (wrap_uns rfl _) (In.wk (in_mod _ (by decide)) rfl) rfl (fun z17 h17 r17 => ?_)))))))
 refine ow_g (g_as rfl) rfl (ow_nil (tw_ret2 hfin Try.results61 rfl rfl ?_))
 have hs := mul_split (x := x) (y := y) h1 h2 h3 h4
 simp only [Eqn, In] at h1 r1 h2 r2 h3 r3 h4 r4 h5 r5 h6 r6 h7 r7 h8 r8 h9 r9 h10 r10 h11 r11 h12 r12 h13 r13 h14 r14 h15 r15 h16 r16 h17 r17 hx hy
 exact ⟨by show Value.tuple #[.int .u64 z16, .int .u64 z17] = _; rw [show z16 = x * y / 18446744073709551616 from by omega, show z17 = x * y % 18446744073709551616 from by omega], rfl⟩
set_option maxRecDepth 100000 in
theorem carry_any (f : Nat → Int) (hf0 : In (f 0) 0 9223372036854775807) (hf1 : In (f 1) 0 9223372036854775807) (hf2 : In (f 2) 0 9223372036854775807) (hf3 : In (f 3) 0 9223372036854775807) (hf4 : In (f 4) 0 9223372036854775807) (w : World) : Rets Try.prog 80 [.agg (iv .u64 5 f).toArray] w (fun v w' => ∃ h c0 c1 c2 c3 c4, v = .agg (iv .u64 5 h).toArray ∧ c0 = f 0 / 2251799813685248 ∧ c1 = (f 1 + c0) / 2251799813685248 ∧ c2 = (f 2 + c1) / 2251799813685248 ∧ c3 = (f 3 + c2) / 2251799813685248 ∧ c4 = (f 4 + c3) / 2251799813685248 ∧ h 0 = f 0 % 2251799813685248 + 19 * c4 ∧ h 1 = (f 1 + c0) % 2251799813685248 ∧ h 2 = (f 2 + c1) % 2251799813685248 ∧ h 3 = (f 3 + c2) % 2251799813685248 ∧ h 4 = (f 4 + c3) % 2251799813685248 ∧ val5 h + c4 * 57896044618658097711785492504343953926634992332820282019728792003956564819949 = val5 f ∧ Keep [] w w') := by
 have hB : Keep [] w w := Keep.refl _ _
 refine rets_of_tw Try.func80 rfl (by decide) Try.ntmps80 rfl (fun fin _ hfin => ?_)
 refine tw_seq (tw_region (ow_d (d_box (cs := [.int .u64 (f 0), .int .u64 (f 1), .int .u64 (f 2), .int .u64 (f 3), .int .u64 (f 4)]) rfl rfl) rfl ?_))
 rintro _ w1 ⟨b1, rfl, eb1, hb1, k1, z1⟩
 have ge_b1 : w.heap.size ≤ b1 := by have := hB.size; omega
 replace hB := hB.trans k1
 clear eb1 z1
 refine ow_d (d_alloc ty26) rfl ?_
 rintro _ w2 ⟨b2, rfl, eb2, hb2, k2, z2⟩
 have ge_b2 : w.heap.size ≤ b2 := by have := hB.size; omega
 have ne_b1_b2 : b1 ≠ b2 := by have := hb1.lt; omega
 replace hb1 := hb1.keep0 k2
 replace hB := hB.trans k2
 clear eb2 z2
 refine ow_nil (tw_seq (tw_seq (tw_region (ow_g (g_mv rfl) rfl (ow_nil (tw_block ?_))))))
 refine tw_unroll 4 ?_
 refine tw_seq (tw_region (ow_g (g_lt rfl rfl) rfl ?_))
 refine ow_nil (tw_seq (tw_ifT rfl (by decide) ?_))
 refine tw_skip (tw_seq (tw_block (tw_seq (tw_region (ow_g (g_mv rfl) rfl (ow_g (g_as rfl) rfl ?_))))))
 refine ow_nil (tw_seq (tw_still 9 mixed (by decide +kernel) (fun w3 k3 => ?_)))
 replace hb1 := hb1.keep0 k3
 replace hb2 := hb2.keep0 k3
 replace hB := hB.trans k3
 refine sw_g (g_mv rfl) rfl (sw_g (g_fold (j := 1) (g_addw rfl rfl) (by decide)) rfl ?_)
 refine sw_g (g_ixa Try.underlying26 ty24 rfl rfl (by decide)) rfl ?_
 refine sw_g (g_ldb sc24 rfl hb1 rfl) rfl ?_
 refine sw_g (g_mv rfl) rfl (sw_g (g_ixa Try.underlying26 ty24 rfl rfl (by decide)) rfl ?_)
 refine sw_g (g_ldb sc24 rfl hb1 rfl) rfl ?_
 refine sw_gx (e' := (f 0) / 2251799813685248) (lo := 0) (hi := 4095) (g_shrp (m := 2251799813685248) rfl rfl (by decide) rfl) (rfl) (In.wk (in_div hf0 (by decide)) rfl) rfl (fun z3 h1 r1 => ?_)
 refine sw_gx (e' := (f 1) + z3) (lo := 0) (hi := 9223372036854779902) (g_addw rfl rfl) (wrap_fit (in_add hf1 r1) rfl) (In.wk (in_add hf1 r1) rfl) rfl (fun z4 h2 r2 => ?_)
 refine sw_nil ?_
 refine ow_g (g_ixa Try.underlying26 ty24 rfl rfl (by decide)) rfl ?_
 refine ow_d0 (d_st ty24 rfl rfl rfl hb1 rfl) ?_
 rintro _ w4 ⟨hb3, k4, z5⟩
 replace hb2 := hb2.keep k4 (fun hm => absurd (List.mem_singleton.1 hm) (Ne.symm ne_b1_b2))
 replace hB := hB.new k4 (fun x hx => .inl ((List.mem_singleton.1 hx) ▸ ge_b1))
 clear z5
 replace hb3 : Bk w4 b1 _ [.int .u64 (f 0), .int .u64 z4, .int .u64 (f 2), .int .u64 (f 3), .int .u64 (f 4)] := hb3
 refine ow_nil (tw_keep [(1, _), (2, _), (4, _), (3, _)] ⟨rfl, rfl, rfl, rfl, trivial⟩ ?_)
 refine tw_region (ow_g (g_mv rfl) rfl (ow_g (g_ixa Try.underlying26 ty24 rfl rfl (by decide)) rfl ?_))
 refine ow_g (g_ldb sc24 rfl hb3 rfl) rfl ?_
 refine ow_gx (e' := (f 0) % 2251799813685248) (lo := 0) (hi := 2251799813685247) (g_and rfl rfl) (and_mod 51 hf0 rfl rfl rfl rfl rfl rfl) (In.wk (in_mod _ (by decide)) rfl) rfl (fun z6 h3 r3 => ?_)
 refine ow_g (g_ixa Try.underlying26 ty24 rfl rfl (by decide)) rfl ?_
 refine ow_d0 (d_st ty24 rfl rfl rfl hb3 rfl) ?_
 rintro _ w5 ⟨hb4, k5, z7⟩
 replace hb2 := hb2.keep k5 (fun hm => absurd (List.mem_singleton.1 hm) (Ne.symm ne_b1_b2))
 replace hB := hB.new k5 (fun x hx => .inl ((List.mem_singleton.1 hx) ▸ ge_b1))
 clear z7
 replace hb4 : Bk w5 b1 _ [.int .u64 z6, .int .u64 z4, .int .u64 (f 2), .int .u64 (f 3), .int .u64 (f 4)] := hb4
 refine ow_nil (tw_b (tw_region (ow_g (g_fold (j := 1) (g_addw rfl rfl) (by decide)) rfl ?_)))
 refine ow_g (g_mv rfl) rfl (ow_nil (tw_lp (tw_seq (tw_region (ow_g (g_lt rfl rfl) rfl ?_)))))
 refine ow_nil (tw_seq (tw_ifT rfl (by decide) ?_))
 refine tw_skip (tw_seq (tw_block (tw_seq (tw_region (ow_g (g_mv rfl) rfl (ow_g (g_as rfl) rfl ?_))))))
 refine ow_nil (tw_seq (tw_still 9 mixed (by decide +kernel) (fun w6 k6 => ?_)))
 replace hb2 := hb2.keep0 k6
 replace hb4 := hb4.keep0 k6
 replace hB := hB.trans k6
 refine sw_g (g_mv rfl) rfl (sw_g (g_fold (j := 2) (g_addw rfl rfl) (by decide)) rfl ?_)
 refine sw_g (g_ixa Try.underlying26 ty24 rfl rfl (by decide)) rfl ?_
 refine sw_g (g_ldb sc24 rfl hb4 rfl) rfl ?_
 refine sw_g (g_mv rfl) rfl (sw_g (g_ixa Try.underlying26 ty24 rfl rfl (by decide)) rfl ?_)
 refine sw_g (g_ldb sc24 rfl hb4 rfl) rfl ?_
 refine sw_gx (e' := z4 / 2251799813685248) (lo := 0) (hi := 4096) (g_shrp (m := 2251799813685248) rfl rfl (by decide) rfl) (rfl) (In.wk (in_div r2 (by decide)) rfl) rfl (fun z8 h4 r4 => ?_)
 refine sw_gx (e' := (f 2) + z8) (lo := 0) (hi := 9223372036854779903) (g_addw rfl rfl) (wrap_fit (in_add hf2 r4) rfl) (In.wk (in_add hf2 r4) rfl) rfl (fun z9 h5 r5 => ?_)
 refine sw_nil ?_
 refine ow_g (g_ixa Try.underlying26 ty24 rfl rfl (by decide)) rfl ?_
 refine ow_d0 (d_st ty24 rfl rfl rfl hb4 rfl) ?_
 rintro _ w7 ⟨hb5, k7, z10⟩
 replace hb2 := hb2.keep k7 (fun hm => absurd (List.mem_singleton.1 hm) (Ne.symm ne_b1_b2))
 replace hB := hB.new k7 (fun x hx => .inl ((List.mem_singleton.1 hx) ▸ ge_b1))
 clear z10
 replace hb5 : Bk w7 b1 _ [.int .u64 z6, .int .u64 z4, .int .u64 z9, .int .u64 (f 3), .int .u64 (f 4)] := hb5
 refine ow_nil (tw_keep [(1, _), (2, _), (4, _), (3, _)] ⟨rfl, rfl, rfl, rfl, trivial⟩ ?_)
 refine tw_region (ow_g (g_mv rfl) rfl (ow_g (g_ixa Try.underlying26 ty24 rfl rfl (by decide)) rfl ?_))
 refine ow_g (g_ldb sc24 rfl hb5 rfl) rfl ?_
 refine ow_gx (e' := z4 % 2251799813685248) (lo := 0) (hi := 2251799813685247) (g_and rfl rfl) (and_mod 51 r2 rfl rfl rfl rfl rfl rfl) (In.wk (in_mod _ (by decide)) rfl) rfl (fun z11 h6 r6 => ?_)
 refine ow_g (g_ixa Try.underlying26 ty24 rfl rfl (by decide)) rfl ?_
 refine ow_d0 (d_st ty24 rfl rfl rfl hb5 rfl) ?_
 rintro _ w8 ⟨hb6, k8, z12⟩
 replace hb2 := hb2.keep k8 (fun hm => absurd (List.mem_singleton.1 hm) (Ne.symm ne_b1_b2))
 replace hB := hB.new k8 (fun x hx => .inl ((List.mem_singleton.1 hx) ▸ ge_b1))
 clear z12
 replace hb6 : Bk w8 b1 _ [.int .u64 z6, .int .u64 z11, .int .u64 z9, .int .u64 (f 3), .int .u64 (f 4)] := hb6
 refine ow_nil (tw_b (tw_region (ow_g (g_fold (j := 2) (g_addw rfl rfl) (by decide)) rfl ?_)))
 refine ow_g (g_mv rfl) rfl (ow_nil (tw_lp (tw_seq (tw_region (ow_g (g_lt rfl rfl) rfl ?_)))))
 refine ow_nil (tw_seq (tw_ifT rfl (by decide) ?_))
 refine tw_skip (tw_seq (tw_block (tw_seq (tw_region (ow_g (g_mv rfl) rfl (ow_g (g_as rfl) rfl ?_))))))
 refine ow_nil (tw_seq (tw_still 9 mixed (by decide +kernel) (fun w9 k9 => ?_)))
 replace hb2 := hb2.keep0 k9
 replace hb6 := hb6.keep0 k9
 replace hB := hB.trans k9
 refine sw_g (g_mv rfl) rfl (sw_g (g_fold (j := 3) (g_addw rfl rfl) (by decide)) rfl ?_)
 refine sw_g (g_ixa Try.underlying26 ty24 rfl rfl (by decide)) rfl ?_
 refine sw_g (g_ldb sc24 rfl hb6 rfl) rfl ?_
 refine sw_g (g_mv rfl) rfl (sw_g (g_ixa Try.underlying26 ty24 rfl rfl (by decide)) rfl ?_)
 refine sw_g (g_ldb sc24 rfl hb6 rfl) rfl ?_
 refine sw_gx (e' := z9 / 2251799813685248) (lo := 0) (hi := 4096) (g_shrp (m := 2251799813685248) rfl rfl (by decide) rfl) (rfl) (In.wk (in_div r5 (by decide)) rfl) rfl (fun z13 h7 r7 => ?_)
 refine sw_gx (e' := (f 3) + z13) (lo := 0) (hi := 9223372036854779903) (g_addw rfl rfl) (wrap_fit (in_add hf3 r7) rfl) (In.wk (in_add hf3 r7) rfl) rfl (fun z14 h8 r8 => ?_)
 refine sw_nil ?_
 refine ow_g (g_ixa Try.underlying26 ty24 rfl rfl (by decide)) rfl ?_
 refine ow_d0 (d_st ty24 rfl rfl rfl hb6 rfl) ?_
 rintro _ w10 ⟨hb7, k10, z15⟩
 replace hb2 := hb2.keep k10 (fun hm => absurd (List.mem_singleton.1 hm) (Ne.symm ne_b1_b2))
 replace hB := hB.new k10 (fun x hx => .inl ((List.mem_singleton.1 hx) ▸ ge_b1))
 clear z15
 replace hb7 : Bk w10 b1 _ [.int .u64 z6, .int .u64 z11, .int .u64 z9, .int .u64 z14, .int .u64 (f 4)] := hb7
 refine ow_nil (tw_keep [(1, _), (2, _), (4, _), (3, _)] ⟨rfl, rfl, rfl, rfl, trivial⟩ ?_)
 refine tw_region (ow_g (g_mv rfl) rfl (ow_g (g_ixa Try.underlying26 ty24 rfl rfl (by decide)) rfl ?_))
 refine ow_g (g_ldb sc24 rfl hb7 rfl) rfl ?_
 refine ow_gx (e' := z9 % 2251799813685248) (lo := 0) (hi := 2251799813685247) (g_and rfl rfl) (and_mod 51 r5 rfl rfl rfl rfl rfl rfl) (In.wk (in_mod _ (by decide)) rfl) rfl (fun z16 h9 r9 => ?_)
 refine ow_g (g_ixa Try.underlying26 ty24 rfl rfl (by decide)) rfl ?_
 refine ow_d0 (d_st ty24 rfl rfl rfl hb7 rfl) ?_
 rintro _ w11 ⟨hb8, k11, z17⟩
 replace hb2 := hb2.keep k11 (fun hm => absurd (List.mem_singleton.1 hm) (Ne.symm ne_b1_b2))
 replace hB := hB.new k11 (fun x hx => .inl ((List.mem_singleton.1 hx) ▸ ge_b1))
 clear z17
 replace hb8 : Bk w11 b1 _ [.int .u64 z6, .int .u64 z11, .int .u64 z16, .int .u64 z14, .int .u64 (f 4)] := hb8
 refine ow_nil (tw_b (tw_region (ow_g (g_fold (j := 3) (g_addw rfl rfl) (by decide)) rfl ?_)))
 refine ow_g (g_mv rfl) rfl (ow_nil (tw_lp (tw_seq (tw_region (ow_g (g_lt rfl rfl) rfl ?_)))))
 refine ow_nil (tw_seq (tw_ifT rfl (by decide) ?_))
 refine tw_skip (tw_seq (tw_block (tw_seq (tw_region (ow_g (g_mv rfl) rfl (ow_g (g_as rfl) rfl ?_))))))
 refine ow_nil (tw_seq (tw_still 9 mixed (by decide +kernel) (fun w12 k12 => ?_)))
 replace hb2 := hb2.keep0 k12
 replace hb8 := hb8.keep0 k12
 replace hB := hB.trans k12
 refine sw_g (g_mv rfl) rfl (sw_g (g_fold (j := 4) (g_addw rfl rfl) (by decide)) rfl ?_)
 refine sw_g (g_ixa Try.underlying26 ty24 rfl rfl (by decide)) rfl ?_
 refine sw_g (g_ldb sc24 rfl hb8 rfl) rfl ?_
 refine sw_g (g_mv rfl) rfl (sw_g (g_ixa Try.underlying26 ty24 rfl rfl (by decide)) rfl ?_)
 refine sw_g (g_ldb sc24 rfl hb8 rfl) rfl ?_
 refine sw_gx (e' := z14 / 2251799813685248) (lo := 0) (hi := 4096) (g_shrp (m := 2251799813685248) rfl rfl (by decide) rfl) (rfl) (In.wk (in_div r8 (by decide)) rfl) rfl (fun z18 h10 r10 => ?_)
 refine sw_gx (e' := (f 4) + z18) (lo := 0) (hi := 9223372036854779903) (g_addw rfl rfl) (wrap_fit (in_add hf4 r10) rfl) (In.wk (in_add hf4 r10) rfl) rfl (fun z19 h11 r11 => ?_)
 refine sw_nil ?_
 refine ow_g (g_ixa Try.underlying26 ty24 rfl rfl (by decide)) rfl ?_
 refine ow_d0 (d_st ty24 rfl rfl rfl hb8 rfl) ?_
 rintro _ w13 ⟨hb9, k13, z20⟩
 replace hb2 := hb2.keep k13 (fun hm => absurd (List.mem_singleton.1 hm) (Ne.symm ne_b1_b2))
 replace hB := hB.new k13 (fun x hx => .inl ((List.mem_singleton.1 hx) ▸ ge_b1))
 clear z20
 replace hb9 : Bk w13 b1 _ [.int .u64 z6, .int .u64 z11, .int .u64 z16, .int .u64 z14, .int .u64 z19] := hb9
 refine ow_nil (tw_keep [(1, _), (2, _), (4, _), (3, _)] ⟨rfl, rfl, rfl, rfl, trivial⟩ ?_)
 refine tw_region (ow_g (g_mv rfl) rfl (ow_g (g_ixa Try.underlying26 ty24 rfl rfl (by decide)) rfl ?_))
 refine ow_g (g_ldb sc24 rfl hb9 rfl) rfl ?_
 refine ow_gx (e' := z14 % 2251799813685248) (lo := 0) (hi := 2251799813685247) (g_and rfl rfl) (and_mod 51 r8 rfl rfl rfl rfl rfl rfl) (In.wk (in_mod _ (by decide)) rfl) rfl (fun z21 h12 r12 => ?_)
 refine ow_g (g_ixa Try.underlying26 ty24 rfl rfl (by decide)) rfl ?_
 refine ow_d0 (d_st ty24 rfl rfl rfl hb9 rfl) ?_
 rintro _ w14 ⟨hb10, k14, z22⟩
 replace hb2 := hb2.keep k14 (fun hm => absurd (List.mem_singleton.1 hm) (Ne.symm ne_b1_b2))
 replace hB := hB.new k14 (fun x hx => .inl ((List.mem_singleton.1 hx) ▸ ge_b1))
 clear z22
 replace hb10 : Bk w14 b1 _ [.int .u64 z6, .int .u64 z11, .int .u64 z16, .int .u64 z21, .int .u64 z19] := hb10
 refine ow_nil (tw_b (tw_region (ow_g (g_fold (j := 4) (g_addw rfl rfl) (by decide)) rfl ?_)))
 refine ow_g (g_mv rfl) rfl (ow_nil (tw_lp (tw_seq (tw_region (ow_g (g_lt rfl rfl) rfl ?_)))))
 refine ow_nil (tw_seq (tw_ifF rfl (by decide) ?_))
 refine tw_exit rfl ?_
 refine tw_seq (tw_region (ow_g (g_ixa Try.underlying26 ty24 rfl rfl (by decide)) rfl ?_))
 refine ow_g (g_ldb sc24 rfl hb10 rfl) rfl ?_
 refine ow_g (g_ixa Try.underlying26 ty24 rfl rfl (by decide)) rfl ?_
 refine ow_g (g_ldb sc24 rfl hb10 rfl) rfl ?_
 refine ow_gx (e' := z19 / 2251799813685248) (lo := 0) (hi := 4096) (g_shrp (m := 2251799813685248) rfl rfl (by decide) rfl) (rfl) (In.wk (in_div r11 (by decide)) rfl) rfl (fun z23 h13 r13 => ?_)
 refine ow_gx (e' := 19 * z23) (lo := 0) (hi := 77824) (g_mulw rfl rfl) (wrap_fit (in_cmul r13 (by decide)) rfl) (In.wk (in_cmul r13 (by decide)) rfl) rfl (fun z24 h14 r14 => ?_)
 refine ow_gx (e' := z6 + z24) (lo := 0) (hi := 2251799813763071) (g_addw rfl rfl) (wrap_fit (in_add r3 r14) rfl) (In.wk (in_add r3 r14) rfl) rfl (fun z25 h15 r15 => ?_)
 refine ow_g (g_ixa Try.underlying26 ty24 rfl rfl (by decide)) rfl ?_
 refine ow_d0 (d_st ty24 rfl rfl rfl hb10 rfl) ?_
 rintro _ w15 ⟨hb11, k15, z26⟩
 replace hb2 := hb2.keep k15 (fun hm => absurd (List.mem_singleton.1 hm) (Ne.symm ne_b1_b2))
 replace hB := hB.new k15 (fun x hx => .inl ((List.mem_singleton.1 hx) ▸ ge_b1))
 clear z26
 replace hb11 : Bk w15 b1 _ [.int .u64 z25, .int .u64 z11, .int .u64 z16, .int .u64 z21, .int .u64 z19] := hb11
 refine ow_nil (tw_keep [(1, _), (2, _)] ⟨rfl, rfl, trivial⟩ ?_)
 refine tw_seq (tw_region (ow_g (g_ixa Try.underlying26 ty24 rfl rfl (by decide)) rfl ?_))
 refine ow_g (g_ldb sc24 rfl hb11 rfl) rfl ?_
 refine ow_gx (e' := z19 % 2251799813685248) (lo := 0) (hi := 2251799813685247) (g_and rfl rfl) (and_mod 51 r11 rfl rfl rfl rfl rfl rfl) (In.wk (in_mod _ (by decide)) rfl) rfl (fun z27 h16 r16 => ?_)
 refine ow_g (g_ixa Try.underlying26 ty24 rfl rfl (by decide)) rfl ?_
 refine ow_d0 (d_st ty24 rfl rfl rfl hb11 rfl) ?_
 rintro _ w16 ⟨hb12, k16, z28⟩
 replace hb2 := hb2.keep k16 (fun hm => absurd (List.mem_singleton.1 hm) (Ne.symm ne_b1_b2))
 replace hB := hB.new k16 (fun x hx => .inl ((List.mem_singleton.1 hx) ▸ ge_b1))
 clear z28
 replace hb12 : Bk w16 b1 _ [.int .u64 z25, .int .u64 z11, .int .u64 z16, .int .u64 z21, .int .u64 z27] := hb12
 refine ow_nil (tw_seq (tw_region (ow_g (g_ldab (cs' := [_, _, _, _, _]) ag26 ty26 rfl hb12 rfl rfl) rfl ?_)))
 refine ow_d0 (d_sta ty26 rfl rfl rfl (by simp only [List.forall_mem_cons]; refine ⟨rfl, rfl, rfl, rfl, rfl, fun v hv => by cases hv⟩) hb2 rfl) ?_
 rintro _ w17 ⟨hb13, k17, z29⟩
 replace hb12 := hb12.keep k17 (fun hm => absurd (List.mem_singleton.1 hm) ne_b1_b2)
 replace hB := hB.new k17 (fun x hx => .inl ((List.mem_singleton.1 hx) ▸ ge_b2))
 clear z29
 replace hb13 : Bk w17 b2 _ [.int .u64 z25, .int .u64 z11, .int .u64 z16, .int .u64 z21, .int .u64 z27] := hb13
 refine ow_nil (tw_retc hfin Try.results80 rfl (run_loadAgg ag26 ty26 ‹_› rfl)  ?_)
 simp only [Eqn, In] at h1 r1 h2 r2 h3 r3 h4 r4 h5 r5 h6 r6 h7 r7 h8 r8 h9 r9 h10 r10 h11 r11 h12 r12 h13 r13 h14 r14 h15 r15 h16 r16 hf0 hf1 hf2 hf3 hf4
 exact ⟨(vecN [z25, z11, z16, z21, z27]), _, _, _, _, _, rfl, rfl, rfl, rfl, rfl, rfl, (by show z25 = _; omega), (by show z11 = _; omega), (by show z16 = _; omega), (by show z21 = _; omega), (by show z27 = _; omega), (by show z25 + z11 * 2251799813685248 + z16 * 5070602400912917605986812821504 + z21 * 11417981541647679048466287755595961091061972992 + z27 * 25711008708143844408671393477458601640355247900524685364822016 + _ = val5 f; unfold val5; omega), hB⟩
set_option maxRecDepth 100000 in
theorem plus_any (h0 l0 x y b c d e : Int) (rh0 : In h0 0 18446744073709551615) (rl0 : In l0 0 18446744073709551615) (hx : In x 0 18446744073709551615) (hy : In y 0 18446744073709551615) (hb : Le (h0 * 18446744073709551616 + l0) b) (hc : x * y ≤ c) (hd : b + c = d) (he : d / 18446744073709551616 = e) (hm : e ≤ 18446744073709551615) (w : World) : Rets Try.prog 81 [.agg [.int .u64 h0, .int .u64 l0].toArray, .int .u64 x, .int .u64 y] w (fun v w' => ∃ hi lo, v = .agg [.int .u64 hi, .int .u64 lo].toArray ∧ In hi 0 e ∧ In lo 0 18446744073709551615 ∧ Eqn (hi * 18446744073709551616 + lo) (h0 * 18446744073709551616 + l0 + x * y) ∧ Le (hi * 18446744073709551616 + lo) d ∧ Keep [] w w') := by
 have hB : Keep [] w w := Keep.refl _ _
 have hxy : 0 ≤ x * y := Int.mul_nonneg hx.1 hy.1
 refine rets_of_tw Try.func81 rfl (by decide) Try.ntmps81 rfl (fun fin _ hfin => ?_)
 refine tw_seq (tw_region (ow_d (d_box (cs := [.int .u64 h0, .int .u64 l0]) rfl rfl) rfl ?_))
 rintro _ w1 ⟨b1, rfl, eb1, hb1, k1, z1⟩
 have ge_b1 : w.heap.size ≤ b1 := by have := hB.size; omega
 replace hB := hB.trans k1
 clear eb1 z1
 refine ow_d (d_alloc ty106) rfl ?_
 rintro _ w2 ⟨b2, rfl, eb2, hb2, k2, z2⟩
 have ge_b2 : w.heap.size ≤ b2 := by have := hB.size; omega
 have ne_b1_b2 : b1 ≠ b2 := by have := hb1.lt; omega
 replace hb1 := hb1.keep0 k2
 replace hB := hB.trans k2
 clear eb2 z2
 refine ow_nil (tw_seq (tw_region (ow_g (g_mv rfl) rfl (ow_g (g_mv rfl) rfl (ow_d (d_call (vs := [_, _]) rfl (mul64_any _ _ (In.wk hx rfl) (In.wk hy rfl) _)) rfl ?_)))))
 rintro _ _ ⟨rfl, rfl⟩
 refine ow_g (g_mv rfl) rfl (ow_gx (e' := (x * y / 18446744073709551616)) (lo := 0) (hi := 18446744073709551614) (g_ext (vs := [_, _]) rfl rfl) (rfl) (In.wk (in_div (in_mul hx hy (by decide) (by decide)) (by decide)) rfl) rfl (fun z3 h1 r1 => ?_))
 refine ow_gx (e' := (x * y % 18446744073709551616)) (lo := 0) (hi := 18446744073709551615) (g_ext (vs := [_, _]) rfl rfl) (rfl) (In.wk (in_mod _ (by decide)) rfl) rfl (fun z4 h2 r2 => ?_)
 refine ow_g (g_as rfl) rfl (ow_g (g_as rfl) rfl (ow_nil (tw_seq (tw_region (ow_g (g_as rfl) rfl (ow_nil ?_))))))
 refine tw_keep [(3, _), (6, _), (7, _), (8, _)] ⟨rfl, rfl, rfl, rfl, trivial⟩ ?_
 refine tw_seq (tw_region (ow_g (g_fa Try.underlying106 rfl ty24 (by decide) rfl) rfl ?_))
 refine ow_g (g_ldb sc24 rfl hb1 rfl) rfl ?_
 refine ow_g (g_mv rfl) rfl (ow_g (g_callv (vs := [_, _, _]) rfl (add64_run _ _ _ (In.wk rl0 rfl) (In.wk r2 rfl) (In.wk (in_c 0) rfl))) rfl ?_)
 refine ow_g (g_mv rfl) rfl (ow_gx (e' := ((l0 + z4 + 0) % 18446744073709551616)) (lo := 0) (hi := 18446744073709551615) (g_ext (vs := [_, _]) rfl rfl) (rfl) (In.wk (in_mod _ (by decide)) rfl) rfl (fun z5 h3 r3 => ?_))
 refine ow_gx (e' := ((l0 + z4 + 0) / 18446744073709551616)) (lo := 0) (hi := 1) (g_ext (vs := [_, _]) rfl rfl) (rfl) (In.wk (in_div (in_add (in_add rl0 r2) (in_c 0)) (by decide)) rfl) rfl (fun z6 h4 r4 => ?_)
 refine ow_g (g_fa Try.underlying106 rfl ty24 (by decide) rfl) rfl ?_
 refine ow_d0 (d_st ty24 rfl rfl rfl hb1 rfl) ?_
 rintro _ w3 ⟨hb3, k3, z7⟩
 replace hb2 := hb2.keep k3 (fun hm => absurd (List.mem_singleton.1 hm) (Ne.symm ne_b1_b2))
 replace hB := hB.new k3 (fun x hx => .inl ((List.mem_singleton.1 hx) ▸ ge_b1))
 clear z7
 replace hb3 : Bk w3 b1 _ [.int .u64 h0, .int .u64 z5] := hb3
 refine ow_g (g_as rfl) rfl (ow_nil (tw_seq (tw_region (ow_g (g_fa Try.underlying106 rfl ty24 (by decide) rfl) rfl ?_))))
 refine ow_g (g_ldb sc24 rfl hb3 rfl) rfl ?_
 refine ow_g (g_mv rfl) rfl (ow_g (g_mv rfl) rfl (ow_g (g_callv (vs := [_, _, _]) rfl (add64_run _ _ _ (In.wk rh0 rfl) (In.wk r1 rfl) (In.wk r4 rfl))) rfl ?_))
 refine ow_g (g_mv rfl) rfl (ow_gx (e' := ((h0 + z3 + z6) % 18446744073709551616)) (lo := 0) (hi := 18446744073709551615) (g_ext (vs := [_, _]) rfl rfl) (rfl) (In.wk (in_mod _ (by decide)) rfl) rfl (fun z8 h5 r5 => ?_))
 refine ow_gx (e' := ((h0 + z3 + z6) / 18446744073709551616)) (lo := 0) (hi := 1) (g_ext (vs := [_, _]) rfl rfl) (rfl) (In.wk (in_div (in_add (in_add rh0 r1) r4) (by decide)) rfl) rfl (fun z9 h6 r6 => ?_)
 refine ow_g (g_fa Try.underlying106 rfl ty24 (by decide) rfl) rfl ?_
 refine ow_d0 (d_st ty24 rfl rfl rfl hb3 rfl) ?_
 rintro _ w4 ⟨hb4, k4, z10⟩
 replace hb2 := hb2.keep k4 (fun hm => absurd (List.mem_singleton.1 hm) (Ne.symm ne_b1_b2))
 replace hB := hB.new k4 (fun x hx => .inl ((List.mem_singleton.1 hx) ▸ ge_b1))
 clear z10
 replace hb4 : Bk w4 b1 _ [.int .u64 z8, .int .u64 z5] := hb4
 refine ow_nil (tw_keep [(3, _), (6, _)] ⟨rfl, rfl, trivial⟩ ?_)
 refine tw_seq (tw_region (ow_g (g_ldab (cs' := [_, _]) ag106 ty106 rfl hb4 rfl rfl) rfl ?_))
 refine ow_d0 (d_sta ty106 rfl rfl rfl (by simp only [List.forall_mem_cons]; refine ⟨rfl, rfl, fun v hv => by cases hv⟩) hb2 rfl) ?_
 rintro _ w5 ⟨hb5, k5, z11⟩
 replace hb4 := hb4.keep k5 (fun hm => absurd (List.mem_singleton.1 hm) ne_b1_b2)
 replace hB := hB.new k5 (fun x hx => .inl ((List.mem_singleton.1 hx) ▸ ge_b2))
 clear z11
 replace hb5 : Bk w5 b2 _ [.int .u64 z8, .int .u64 z5] := hb5
 refine ow_nil (tw_retc hfin Try.results81 rfl (run_loadAgg ag106 ty106 ‹_› rfl)  ?_)
 simp only [Eqn, In] at h1 r1 h2 r2 h3 r3 h4 r4 h5 r5 h6 r6 hx hy rh0 rl0
 unfold Le at hb
 exact ⟨z8, z5, rfl, by unfold In; omega, by unfold In; omega, by unfold Eqn; omega, by unfold Le; omega, hB⟩
set_option maxRecDepth 100000 in
theorem add_any (f g : Nat → Int) (a b : Fp) (hf : El f a) (hg : El g b) (w : World) : Rets Try.prog 73 [.agg (iv .u64 5 f).toArray, .agg (iv .u64 5 g).toArray] w (fun v w' => ∃ h, v = .agg (iv .u64 5 h).toArray ∧ El h (a + b) ∧ Keep [] w w') := by
 have hB : Keep [] w w := Keep.refl _ _
 obtain ⟨f0, f1, f2, f3, f4, hfv⟩ := hf
 obtain ⟨g0, g1, g2, g3, g4, hgv⟩ := hg
 refine rets_of_tw Try.func73 rfl (by decide) Try.ntmps73 rfl (fun fin _ hfin => ?_)
 refine tw_seq (tw_region (ow_d (d_box (cs := [.int .u64 (f 0), .int .u64 (f 1), .int .u64 (f 2), .int .u64 (f 3), .int .u64 (f 4)]) rfl rfl) rfl ?_))
 rintro _ w1 ⟨b1, rfl, eb1, hb1, k1, z1⟩
 have ge_b1 : w.heap.size ≤ b1 := by have := hB.size; omega
 replace hB := hB.trans k1
 clear eb1 z1
 refine ow_d (d_box (cs := [.int .u64 (g 0), .int .u64 (g 1), .int .u64 (g 2), .int .u64 (g 3), .int .u64 (g 4)]) rfl rfl) rfl ?_
 rintro _ w2 ⟨b2, rfl, eb2, hb2, k2, z2⟩
 have ge_b2 : w.heap.size ≤ b2 := by have := hB.size; omega
 have ne_b1_b2 : b1 ≠ b2 := by have := hb1.lt; omega
 replace hb1 := hb1.keep0 k2
 replace hB := hB.trans k2
 clear eb2 z2
 refine ow_d (d_alloc ty26) rfl ?_
 rintro _ w3 ⟨b3, rfl, eb3, hb3, k3, z3⟩
 have ge_b3 : w.heap.size ≤ b3 := by have := hB.size; omega
 have ne_b1_b3 : b1 ≠ b3 := by have := hb1.lt; omega
 have ne_b2_b3 : b2 ≠ b3 := by have := hb2.lt; omega
 replace hb1 := hb1.keep0 k3
 replace hb2 := hb2.keep0 k3
 replace hB := hB.trans k3
 clear eb3 z3
 refine ow_nil (tw_seq (tw_seq (tw_region (ow_g (g_mv rfl) rfl (ow_nil (tw_block ?_))))))
 refine tw_unroll 5 ?_
 refine tw_seq (tw_region (ow_g (g_lt rfl rfl) rfl ?_))
 refine ow_nil (tw_seq (tw_ifT rfl (by decide) ?_))
 refine tw_skip (tw_seq (tw_block (tw_seq (tw_region (ow_g (g_mv rfl) rfl (ow_g (g_as rfl) rfl ?_))))))
 refine ow_nil (tw_still 7 mixed (by decide +kernel) (fun w4 k4 => ?_))
 replace hb1 := hb1.keep0 k4
 replace hb2 := hb2.keep0 k4
 replace hb3 := hb3.keep0 k4
 replace hB := hB.trans k4
 refine sw_g (g_mv rfl) rfl (sw_g (g_ixa Try.underlying26 ty24 rfl rfl (by decide)) rfl ?_)
 refine sw_g (g_ldb sc24 rfl hb1 rfl) rfl ?_
 refine sw_g (g_mv rfl) rfl (sw_g (g_ixa Try.underlying26 ty24 rfl rfl (by decide)) rfl ?_)
 refine sw_g (g_ldb sc24 rfl hb2 rfl) rfl ?_
 refine sw_gx (e' := (f 0) + (g 0)) (lo := 0) (hi := 9007199254740990) (g_addw rfl rfl) (wrap_fit (in_add f0 g0) rfl) (In.wk (in_add f0 g0) rfl) rfl (fun z4 h1 r1 => ?_)
 refine sw_nil ?_
 refine ow_g (g_ixa Try.underlying26 ty24 rfl rfl (by decide)) rfl ?_
 refine ow_d0 (d_st ty24 rfl rfl rfl hb1 rfl) ?_
 rintro _ w5 ⟨hb4, k5, z5⟩
 replace hb2 := hb2.keep k5 (fun hm => absurd (List.mem_singleton.1 hm) (Ne.symm ne_b1_b2))
 replace hb3 := hb3.keep k5 (fun hm => absurd (List.mem_singleton.1 hm) (Ne.symm ne_b1_b3))
 replace hB := hB.new k5 (fun x hx => .inl ((List.mem_singleton.1 hx) ▸ ge_b1))
 clear z5
 replace hb4 : Bk w5 b1 _ [.int .u64 z4, .int .u64 (f 1), .int .u64 (f 2), .int .u64 (f 3), .int .u64 (f 4)] := hb4
 refine ow_nil (tw_keep [(2, _), (3, _), (4, _), (6, _)] ⟨rfl, rfl, rfl, rfl, trivial⟩ ?_)
 refine tw_b (tw_region (ow_g (g_fold (j := 1) (g_addw rfl rfl) (by decide)) rfl ?_))
 refine ow_g (g_mv rfl) rfl (ow_nil (tw_lp (tw_seq (tw_region (ow_g (g_lt rfl rfl) rfl ?_)))))
 refine ow_nil (tw_seq (tw_ifT rfl (by decide) ?_))
 refine tw_skip (tw_seq (tw_block (tw_seq (tw_region (ow_g (g_mv rfl) rfl (ow_g (g_as rfl) rfl ?_))))))
 refine ow_nil (tw_still 7 mixed (by decide +kernel) (fun w6 k6 => ?_))
 replace hb2 := hb2.keep0 k6
 replace hb3 := hb3.keep0 k6
 replace hb4 := hb4.keep0 k6
 replace hB := hB.trans k6
 refine sw_g (g_mv rfl) rfl (sw_g (g_ixa Try.underlying26 ty24 rfl rfl (by decide)) rfl ?_)
 refine sw_g (g_ldb sc24 rfl hb4 rfl) rfl ?_
 refine sw_g (g_mv rfl) rfl (sw_g (g_ixa Try.underlying26 ty24 rfl rfl (by decide)) rfl ?_)
 refine sw_g (g_ldb sc24 rfl hb2 rfl) rfl ?_
 refine sw_gx (e' := (f 1) + (g 1)) (lo := 0) (hi := 9007199254740990) (g_addw rfl rfl) (wrap_fit (in_add f1 g1) rfl) (In.wk (in_add f1 g1) rfl) rfl (fun z6 h2 r2 => ?_)
 refine sw_nil ?_
 refine ow_g (g_ixa Try.underlying26 ty24 rfl rfl (by decide)) rfl ?_
 refine ow_d0 (d_st ty24 rfl rfl rfl hb4 rfl) ?_
 rintro _ w7 ⟨hb5, k7, z7⟩
 replace hb2 := hb2.keep k7 (fun hm => absurd (List.mem_singleton.1 hm) (Ne.symm ne_b1_b2))
 replace hb3 := hb3.keep k7 (fun hm => absurd (List.mem_singleton.1 hm) (Ne.symm ne_b1_b3))
 replace hB := hB.new k7 (fun x hx => .inl ((List.mem_singleton.1 hx) ▸ ge_b1))
 clear z7
 replace hb5 : Bk w7 b1 _ [.int .u64 z4, .int .u64 z6, .int .u64 (f 2), .int .u64 (f 3), .int .u64 (f 4)] := hb5
 refine ow_nil (tw_keep [(2, _), (3, _), (4, _), (6, _)] ⟨rfl, rfl, rfl, rfl, trivial⟩ ?_)
 refine tw_b (tw_region (ow_g (g_fold (j := 2) (g_addw rfl rfl) (by decide)) rfl ?_))
 refine ow_g (g_mv rfl) rfl (ow_nil (tw_lp (tw_seq (tw_region (ow_g (g_lt rfl rfl) rfl ?_)))))
 refine ow_nil (tw_seq (tw_ifT rfl (by decide) ?_))
 refine tw_skip (tw_seq (tw_block (tw_seq (tw_region (ow_g (g_mv rfl) rfl (ow_g (g_as rfl) rfl ?_))))))
 refine ow_nil (tw_still 7 mixed (by decide +kernel) (fun w8 k8 => ?_))
 replace hb2 := hb2.keep0 k8
 replace hb3 := hb3.keep0 k8
 replace hb5 := hb5.keep0 k8
 replace hB := hB.trans k8
 refine sw_g (g_mv rfl) rfl (sw_g (g_ixa Try.underlying26 ty24 rfl rfl (by decide)) rfl ?_)
 refine sw_g (g_ldb sc24 rfl hb5 rfl) rfl ?_
 refine sw_g (g_mv rfl) rfl (sw_g (g_ixa Try.underlying26 ty24 rfl rfl (by decide)) rfl ?_)
 refine sw_g (g_ldb sc24 rfl hb2 rfl) rfl ?_
 refine sw_gx (e' := (f 2) + (g 2)) (lo := 0) (hi := 9007199254740990) (g_addw rfl rfl) (wrap_fit (in_add f2 g2) rfl) (In.wk (in_add f2 g2) rfl) rfl (fun z8 h3 r3 => ?_)
 refine sw_nil ?_
 refine ow_g (g_ixa Try.underlying26 ty24 rfl rfl (by decide)) rfl ?_
 refine ow_d0 (d_st ty24 rfl rfl rfl hb5 rfl) ?_
 rintro _ w9 ⟨hb6, k9, z9⟩
 replace hb2 := hb2.keep k9 (fun hm => absurd (List.mem_singleton.1 hm) (Ne.symm ne_b1_b2))
 replace hb3 := hb3.keep k9 (fun hm => absurd (List.mem_singleton.1 hm) (Ne.symm ne_b1_b3))
 replace hB := hB.new k9 (fun x hx => .inl ((List.mem_singleton.1 hx) ▸ ge_b1))
 clear z9
 replace hb6 : Bk w9 b1 _ [.int .u64 z4, .int .u64 z6, .int .u64 z8, .int .u64 (f 3), .int .u64 (f 4)] := hb6
 refine ow_nil (tw_keep [(2, _), (3, _), (4, _), (6, _)] ⟨rfl, rfl, rfl, rfl, trivial⟩ ?_)
 refine tw_b (tw_region (ow_g (g_fold (j := 3) (g_addw rfl rfl) (by decide)) rfl ?_))
 refine ow_g (g_mv rfl) rfl (ow_nil (tw_lp (tw_seq (tw_region (ow_g (g_lt rfl rfl) rfl ?_)))))
 refine ow_nil (tw_seq (tw_ifT rfl (by decide) ?_))
 refine tw_skip (tw_seq (tw_block (tw_seq (tw_region (ow_g (g_mv rfl) rfl (ow_g (g_as rfl) rfl ?_))))))
 refine ow_nil (tw_still 7 mixed (by decide +kernel) (fun w10 k10 => ?_))
 replace hb2 := hb2.keep0 k10
 replace hb3 := hb3.keep0 k10
 replace hb6 := hb6.keep0 k10
 replace hB := hB.trans k10
 refine sw_g (g_mv rfl) rfl (sw_g (g_ixa Try.underlying26 ty24 rfl rfl (by decide)) rfl ?_)
 refine sw_g (g_ldb sc24 rfl hb6 rfl) rfl ?_
 refine sw_g (g_mv rfl) rfl (sw_g (g_ixa Try.underlying26 ty24 rfl rfl (by decide)) rfl ?_)
 refine sw_g (g_ldb sc24 rfl hb2 rfl) rfl ?_
 refine sw_gx (e' := (f 3) + (g 3)) (lo := 0) (hi := 9007199254740990) (g_addw rfl rfl) (wrap_fit (in_add f3 g3) rfl) (In.wk (in_add f3 g3) rfl) rfl (fun z10 h4 r4 => ?_)
 refine sw_nil ?_
 refine ow_g (g_ixa Try.underlying26 ty24 rfl rfl (by decide)) rfl ?_
 refine ow_d0 (d_st ty24 rfl rfl rfl hb6 rfl) ?_
 rintro _ w11 ⟨hb7, k11, z11⟩
 replace hb2 := hb2.keep k11 (fun hm => absurd (List.mem_singleton.1 hm) (Ne.symm ne_b1_b2))
 replace hb3 := hb3.keep k11 (fun hm => absurd (List.mem_singleton.1 hm) (Ne.symm ne_b1_b3))
 replace hB := hB.new k11 (fun x hx => .inl ((List.mem_singleton.1 hx) ▸ ge_b1))
 clear z11
 replace hb7 : Bk w11 b1 _ [.int .u64 z4, .int .u64 z6, .int .u64 z8, .int .u64 z10, .int .u64 (f 4)] := hb7
 refine ow_nil (tw_keep [(2, _), (3, _), (4, _), (6, _)] ⟨rfl, rfl, rfl, rfl, trivial⟩ ?_)
 refine tw_b (tw_region (ow_g (g_fold (j := 4) (g_addw rfl rfl) (by decide)) rfl ?_))
 refine ow_g (g_mv rfl) rfl (ow_nil (tw_lp (tw_seq (tw_region (ow_g (g_lt rfl rfl) rfl ?_)))))
 refine ow_nil (tw_seq (tw_ifT rfl (by decide) ?_))
 refine tw_skip (tw_seq (tw_block (tw_seq (tw_region (ow_g (g_mv rfl) rfl (ow_g (g_as rfl) rfl ?_))))))
 refine ow_nil (tw_still 7 mixed (by decide +kernel) (fun w12 k12 => ?_))
 replace hb2 := hb2.keep0 k12
 replace hb3 := hb3.keep0 k12
 replace hb7 := hb7.keep0 k12
 replace hB := hB.trans k12
 refine sw_g (g_mv rfl) rfl (sw_g (g_ixa Try.underlying26 ty24 rfl rfl (by decide)) rfl ?_)
 refine sw_g (g_ldb sc24 rfl hb7 rfl) rfl ?_
 refine sw_g (g_mv rfl) rfl (sw_g (g_ixa Try.underlying26 ty24 rfl rfl (by decide)) rfl ?_)
 refine sw_g (g_ldb sc24 rfl hb2 rfl) rfl ?_
 refine sw_gx (e' := (f 4) + (g 4)) (lo := 0) (hi := 9007199254740990) (g_addw rfl rfl) (wrap_fit (in_add f4 g4) rfl) (In.wk (in_add f4 g4) rfl) rfl (fun z12 h5 r5 => ?_)
 refine sw_nil ?_
 refine ow_g (g_ixa Try.underlying26 ty24 rfl rfl (by decide)) rfl ?_
 refine ow_d0 (d_st ty24 rfl rfl rfl hb7 rfl) ?_
 rintro _ w13 ⟨hb8, k13, z13⟩
 replace hb2 := hb2.keep k13 (fun hm => absurd (List.mem_singleton.1 hm) (Ne.symm ne_b1_b2))
 replace hb3 := hb3.keep k13 (fun hm => absurd (List.mem_singleton.1 hm) (Ne.symm ne_b1_b3))
 replace hB := hB.new k13 (fun x hx => .inl ((List.mem_singleton.1 hx) ▸ ge_b1))
 clear z13
 replace hb8 : Bk w13 b1 _ [.int .u64 z4, .int .u64 z6, .int .u64 z8, .int .u64 z10, .int .u64 z12] := hb8
 refine ow_nil (tw_keep [(2, _), (3, _), (4, _), (6, _)] ⟨rfl, rfl, rfl, rfl, trivial⟩ ?_)
 refine tw_b (tw_region (ow_g (g_fold (j := 5) (g_addw rfl rfl) (by decide)) rfl ?_))
 refine ow_g (g_mv rfl) rfl (ow_nil (tw_lp (tw_seq (tw_region (ow_g (g_lt rfl rfl) rfl ?_)))))
 refine ow_nil (tw_seq (tw_ifF rfl (by decide) ?_))
 refine tw_exit rfl ?_
 refine tw_seq (tw_region (ow_g (g_ldab (cs' := [_, _, _, _, _]) ag26 ty26 rfl hb8 rfl rfl) rfl ?_))
 refine ow_d (d_call (vs := [_]) rfl (carry_any (vecN [z4, z6, z8, z10, z12]) (In.wk r1 rfl) (In.wk r2 rfl) (In.wk r3 rfl) (In.wk r4 rfl) (In.wk r5 rfl) _)) rfl ?_
 rintro _ w14 ⟨hh1, c01, c11, c21, c31, c41, rfl, e01, e11, e21, e31, e41, g01, g11, g21, g31, g41, gv1, k14⟩
 replace hb2 := hb2.keep0 k14
 replace hb3 := hb3.keep0 k14
 replace hb8 := hb8.keep0 k14
 replace hB := hB.trans k14
 replace e01 : c01 = z4 / 2251799813685248 := e01
 replace e11 : c11 = (z6 + c01) / 2251799813685248 := e11
 replace e21 : c21 = (z8 + c11) / 2251799813685248 := e21
 replace e31 : c31 = (z10 + c21) / 2251799813685248 := e31
 replace e41 : c41 = (z12 + c31) / 2251799813685248 := e41
 replace g01 : hh1 0 = z4 % 2251799813685248 + 19 * c41 := g01
 replace g11 : hh1 1 = (z6 + c01) % 2251799813685248 := g11
 replace g21 : hh1 2 = (z8 + c11) % 2251799813685248 := g21
 replace g31 : hh1 3 = (z10 + c21) % 2251799813685248 := g31
 replace g41 : hh1 4 = (z12 + c31) % 2251799813685248 := g41
 replace gv1 : val5 hh1 + c41 * 57896044618658097711785492504343953926634992332820282019728792003956564819949 = z4 + z6 * 2251799813685248 + z8 * 5070602400912917605986812821504 + z10 * 11417981541647679048466287755595961091061972992 + z12 * 25711008708143844408671393477458601640355247900524685364822016 := gv1
 obtain ⟨r6, r7, r8, r9, r10⟩ := carry_bounds (t := 2251799813685323) e01 e11 e21 e31 e41 g01 g11 g21 g31 g41 (In.wk r1 rfl : In _ 0 9007199254740990) (In.wk r2 rfl : In _ 0 9007199254740990) (In.wk r3 rfl : In _ 0 9007199254740990) (In.wk r4 rfl : In _ 0 9007199254740990) (In.wk r5 rfl : In _ 0 9007199254740990) rfl
 refine ow_d0 (d_sta ty26 rfl rfl rfl ivF_one hb3 rfl) ?_
 rintro _ w15 ⟨hb9, k15, z14⟩
 replace hb2 := hb2.keep k15 (fun hm => absurd (List.mem_singleton.1 hm) ne_b2_b3)
 replace hb8 := hb8.keep k15 (fun hm => absurd (List.mem_singleton.1 hm) ne_b1_b3)
 replace hB := hB.new k15 (fun x hx => .inl ((List.mem_singleton.1 hx) ▸ ge_b3))
 clear z14
 replace hb9 : Bk w15 b3 _ [.int .u64 (hh1 0), .int .u64 (hh1 1), .int .u64 (hh1 2), .int .u64 (hh1 3), .int .u64 (hh1 4)] := hb9
 refine ow_nil (tw_retc hfin Try.results73 rfl (run_loadAgg ag26 ty26 ‹_› rfl)  ?_)
 simp only [Eqn, In] at h1 r1 h2 r2 h3 r3 h4 r4 h5 r5 f0 f1 f2 f3 f4 g0 g1 g2 g3 g4
 exact ⟨hh1, rfl, ⟨(In.wk r6 rfl), (In.wk r7 rfl), (In.wk r8 rfl), (In.wk r9 rfl), (In.wk r10 rfl), by rw [show val5 hh1 = val5 f + val5 g + (-c41) * 57896044618658097711785492504343953926634992332820282019728792003956564819949 from by unfold val5 at *; omega, fp_eq (b := val5 f + val5 g) (-c41) rfl, fp_add, hfv, hgv]⟩, hB⟩
set_option maxRecDepth 100000 in
theorem sub_any (f g : Nat → Int) (a b : Fp) (hf : El f a) (hg : El g b) (w : World) : Rets Try.prog 72 [.agg (iv .u64 5 f).toArray, .agg (iv .u64 5 g).toArray] w (fun v w' => ∃ h, v = .agg (iv .u64 5 h).toArray ∧ El h (a - b) ∧ Keep [] w w') := by
 have hB : Keep [] w w := Keep.refl _ _
 obtain ⟨f0, f1, f2, f3, f4, hfv⟩ := hf
 obtain ⟨g0, g1, g2, g3, g4, hgv⟩ := hg
 refine rets_of_tw Try.func72 rfl (by decide) Try.ntmps72 rfl (fun fin _ hfin => ?_)
 refine tw_seq (tw_region (ow_d (d_box (cs := [.int .u64 (f 0), .int .u64 (f 1), .int .u64 (f 2), .int .u64 (f 3), .int .u64 (f 4)]) rfl rfl) rfl ?_))
 rintro _ w1 ⟨b1, rfl, eb1, hb1, k1, z1⟩
 have ge_b1 : w.heap.size ≤ b1 := by have := hB.size; omega
 replace hB := hB.trans k1
 clear eb1 z1
 refine ow_d (d_box (cs := [.int .u64 (g 0), .int .u64 (g 1), .int .u64 (g 2), .int .u64 (g 3), .int .u64 (g 4)]) rfl rfl) rfl ?_
 rintro _ w2 ⟨b2, rfl, eb2, hb2, k2, z2⟩
 have ge_b2 : w.heap.size ≤ b2 := by have := hB.size; omega
 have ne_b1_b2 : b1 ≠ b2 := by have := hb1.lt; omega
 replace hb1 := hb1.keep0 k2
 replace hB := hB.trans k2
 clear eb2 z2
 refine ow_d (d_alloc ty26) rfl ?_
 rintro _ w3 ⟨b3, rfl, eb3, hb3, k3, z3⟩
 have ge_b3 : w.heap.size ≤ b3 := by have := hB.size; omega
 have ne_b1_b3 : b1 ≠ b3 := by have := hb1.lt; omega
 have ne_b2_b3 : b2 ≠ b3 := by have := hb2.lt; omega
 replace hb1 := hb1.keep0 k3
 replace hb2 := hb2.keep0 k3
 replace hB := hB.trans k3
 clear eb3 z3
 refine ow_nil (tw_seq (tw_region (ow_g (g_blda (idx := [0, 1, 2, 3, 4]) (xs := [.const (.int .u64 (4503599627370458)), .const (.int .u64 (4503599627370494)), .const (.int .u64 (4503599627370494)), .const (.int .u64 (4503599627370494)), .const (.int .u64 (4503599627370494))]) (vs := [_, _, _, _, _]) (css := [[.int .u64 4503599627370458], [.int .u64 4503599627370494], [.int .u64 4503599627370494], [.int .u64 4503599627370494], [.int .u64 4503599627370494]]) (out := [.int .u64 4503599627370458, .int .u64 4503599627370494, .int .u64 4503599627370494, .int .u64 4503599627370494, .int .u64 4503599627370494]) Try.underlying26 ty24 ty26 (arr_pls 5 1) rfl rfl ⟨rfl, rfl, rfl, rfl, rfl, trivial⟩ rfl rfl) rfl ?_)))
 refine ow_d (d_alloc ty26) rfl ?_
 rintro _ w4 ⟨b4, rfl, eb4, hb4, k4, z4⟩
 have ge_b4 : w.heap.size ≤ b4 := by have := hB.size; omega
 have ne_b1_b4 : b1 ≠ b4 := by have := hb1.lt; omega
 have ne_b2_b4 : b2 ≠ b4 := by have := hb2.lt; omega
 have ne_b3_b4 : b3 ≠ b4 := by have := hb3.lt; omega
 replace hb1 := hb1.keep0 k4
 replace hb2 := hb2.keep0 k4
 replace hb3 := hb3.keep0 k4
 replace hB := hB.trans k4
 clear eb4 z4
 refine ow_d0 (d_sta ty26 rfl rfl rfl (by simp only [List.forall_mem_cons]; refine ⟨rfl, rfl, rfl, rfl, rfl, fun v hv => by cases hv⟩) hb4 rfl) ?_
 rintro _ w5 ⟨hb5, k5, z5⟩
 replace hb1 := hb1.keep k5 (fun hm => absurd (List.mem_singleton.1 hm) ne_b1_b4)
 replace hb2 := hb2.keep k5 (fun hm => absurd (List.mem_singleton.1 hm) ne_b2_b4)
 replace hb3 := hb3.keep k5 (fun hm => absurd (List.mem_singleton.1 hm) ne_b3_b4)
 replace hB := hB.new k5 (fun x hx => .inl ((List.mem_singleton.1 hx) ▸ ge_b4))
 clear z5
 replace hb5 : Bk w5 b4 _ [.int .u64 4503599627370458, .int .u64 4503599627370494, .int .u64 4503599627370494, .int .u64 4503599627370494, .int .u64 4503599627370494] := hb5
 refine ow_nil (tw_seq (tw_region (ow_g (g_ldab (cs' := [_, _, _, _, _]) ag26 ty26 rfl hb2 rfl rfl) rfl ?_)))
 refine ow_d (d_call (vs := [_]) rfl (carry_any g (In.wk g0 rfl) (In.wk g1 rfl) (In.wk g2 rfl) (In.wk g3 rfl) (In.wk g4 rfl) _)) rfl ?_
 rintro _ w6 ⟨hh1, c01, c11, c21, c31, c41, rfl, e01, e11, e21, e31, e41, g01, g11, g21, g31, g41, gv1, k6⟩
 replace hb1 := hb1.keep0 k6
 replace hb2 := hb2.keep0 k6
 replace hb3 := hb3.keep0 k6
 replace hb5 := hb5.keep0 k6
 replace hB := hB.trans k6
 obtain ⟨r1, r2, r3, r4, r5⟩ := carry_bounds (t := 2251799813685285) e01 e11 e21 e31 e41 g01 g11 g21 g31 g41 (In.wk g0 rfl : In _ 0 4503599627370495) (In.wk g1 rfl : In _ 0 4503599627370495) (In.wk g2 rfl : In _ 0 4503599627370495) (In.wk g3 rfl : In _ 0 4503599627370495) (In.wk g4 rfl : In _ 0 4503599627370495) rfl
 refine ow_d0 (d_sta ty26 rfl rfl rfl ivF_one hb2 rfl) ?_
 rintro _ w7 ⟨hb6, k7, z6⟩
 replace hb1 := hb1.keep k7 (fun hm => absurd (List.mem_singleton.1 hm) ne_b1_b2)
 replace hb3 := hb3.keep k7 (fun hm => absurd (List.mem_singleton.1 hm) (Ne.symm ne_b2_b3))
 replace hb5 := hb5.keep k7 (fun hm => absurd (List.mem_singleton.1 hm) (Ne.symm ne_b2_b4))
 replace hB := hB.new k7 (fun x hx => .inl ((List.mem_singleton.1 hx) ▸ ge_b2))
 clear z6
 replace hb6 : Bk w7 b2 _ [.int .u64 (hh1 0), .int .u64 (hh1 1), .int .u64 (hh1 2), .int .u64 (hh1 3), .int .u64 (hh1 4)] := hb6
 refine ow_nil (tw_seq (tw_seq (tw_region (ow_g (g_mv rfl) rfl (ow_nil (tw_block ?_))))))
 refine tw_unroll 5 ?_
 refine tw_seq (tw_region (ow_g (g_lt rfl rfl) rfl ?_))
 refine ow_nil (tw_seq (tw_ifT rfl (by decide) ?_))
 refine tw_skip (tw_seq (tw_block (tw_seq (tw_region (ow_g (g_mv rfl) rfl (ow_g (g_as rfl) rfl ?_))))))
 refine ow_nil (tw_still 11 mixed (by decide +kernel) (fun w8 k8 => ?_))
 replace hb1 := hb1.keep0 k8
 replace hb3 := hb3.keep0 k8
 replace hb5 := hb5.keep0 k8
 replace hb6 := hb6.keep0 k8
 replace hB := hB.trans k8
 refine sw_g (g_mv rfl) rfl (sw_g (g_ixa Try.underlying26 ty24 rfl rfl (by decide)) rfl ?_)
 refine sw_g (g_ldb sc24 rfl hb1 rfl) rfl ?_
 refine sw_g (g_mv rfl) rfl (sw_g (g_ixa Try.underlying26 ty24 rfl rfl (by decide)) rfl ?_)
 refine sw_g (g_ldb sc24 rfl hb5 rfl) rfl ?_
 refine sw_g (g_mv rfl) rfl (sw_g (g_ixa Try.underlying26 ty24 rfl rfl (by decide)) rfl ?_)
 refine sw_g (g_ldb sc24 rfl hb6 rfl) rfl ?_
 refine sw_gx (e' := 4503599627370458 - (hh1 0)) (lo := 2251799813685173) (hi := 4503599627370458) (g_subw rfl rfl) (wrap_fit (in_sub (in_c 4503599627370458) r1) rfl) (In.wk (in_sub (in_c 4503599627370458) r1) rfl) rfl (fun z7 h1 r6 => ?_)
 refine sw_gx (e' := (f 0) + z7) (lo := 2251799813685173) (hi := 9007199254740953) (g_addw rfl rfl) (wrap_fit (in_add f0 r6) rfl) (In.wk (in_add f0 r6) rfl) rfl (fun z8 h2 r7 => ?_)
 refine sw_nil ?_
 refine ow_g (g_ixa Try.underlying26 ty24 rfl rfl (by decide)) rfl ?_
 refine ow_d0 (d_st ty24 rfl rfl rfl hb1 rfl) ?_
 rintro _ w9 ⟨hb7, k9, z9⟩
 replace hb3 := hb3.keep k9 (fun hm => absurd (List.mem_singleton.1 hm) (Ne.symm ne_b1_b3))
 replace hb5 := hb5.keep k9 (fun hm => absurd (List.mem_singleton.1 hm) (Ne.symm ne_b1_b4))
 replace hb6 := hb6.keep k9 (fun hm => absurd (List.mem_singleton.1 hm) (Ne.symm ne_b1_b2))
 replace hB := hB.new k9 (fun x hx => .inl ((List.mem_singleton.1 hx) ▸ ge_b1))
 clear z9
 replace hb7 : Bk w9 b1 _ [.int .u64 z8, .int .u64 (f 1), .int .u64 (f 2), .int .u64 (f 3), .int .u64 (f 4)] := hb7
 refine ow_nil (tw_keep [(2, _), (3, _), (4, _), (5, _), (10, _)] ⟨rfl, rfl, rfl, rfl, rfl, trivial⟩ ?_)
 refine tw_b (tw_region (ow_g (g_fold (j := 1) (g_addw rfl rfl) (by decide)) rfl ?_))
 refine ow_g (g_mv rfl) rfl (ow_nil (tw_lp (tw_seq (tw_region (ow_g (g_lt rfl rfl) rfl ?_)))))
 refine ow_nil (tw_seq (tw_ifT rfl (by decide) ?_))
 refine tw_skip (tw_seq (tw_block (tw_seq (tw_region (ow_g (g_mv rfl) rfl (ow_g (g_as rfl) rfl ?_))))))
 refine ow_nil (tw_still 11 mixed (by decide +kernel) (fun w10 k10 => ?_))
 replace hb3 := hb3.keep0 k10
 replace hb5 := hb5.keep0 k10
 replace hb6 := hb6.keep0 k10
 replace hb7 := hb7.keep0 k10
 replace hB := hB.trans k10
 refine sw_g (g_mv rfl) rfl (sw_g (g_ixa Try.underlying26 ty24 rfl rfl (by decide)) rfl ?_)
 refine sw_g (g_ldb sc24 rfl hb7 rfl) rfl ?_
 refine sw_g (g_mv rfl) rfl (sw_g (g_ixa Try.underlying26 ty24 rfl rfl (by decide)) rfl ?_)
 refine sw_g (g_ldb sc24 rfl hb5 rfl) rfl ?_
 refine sw_g (g_mv rfl) rfl (sw_g (g_ixa Try.underlying26 ty24 rfl rfl (by decide)) rfl ?_)
 refine sw_g (g_ldb sc24 rfl hb6 rfl) rfl ?_
 refine sw_gx (e' := 4503599627370494 - (hh1 1)) (lo := 2251799813685247) (hi := 4503599627370494) (g_subw rfl rfl) (wrap_fit (in_sub (in_c 4503599627370494) r2) rfl) (In.wk (in_sub (in_c 4503599627370494) r2) rfl) rfl (fun z10 h3 r8 => ?_)
 refine sw_gx (e' := (f 1) + z10) (lo := 2251799813685247) (hi := 9007199254740989) (g_addw rfl rfl) (wrap_fit (in_add f1 r8) rfl) (In.wk (in_add f1 r8) rfl) rfl (fun z11 h4 r9 => ?_)
 refine sw_nil ?_
 refine ow_g (g_ixa Try.underlying26 ty24 rfl rfl (by decide)) rfl ?_
 refine ow_d0 (d_st ty24 rfl rfl rfl hb7 rfl) ?_
 rintro _ w11 ⟨hb8, k11, z12⟩
 replace hb3 := hb3.keep k11 (fun hm => absurd (List.mem_singleton.1 hm) (Ne.symm ne_b1_b3))
 replace hb5 := hb5.keep k11 (fun hm => absurd (List.mem_singleton.1 hm) (Ne.symm ne_b1_b4))
 replace hb6 := hb6.keep k11 (fun hm => absurd (List.mem_singleton.1 hm) (Ne.symm ne_b1_b2))
 replace hB := hB.new k11 (fun x hx => .inl ((List.mem_singleton.1 hx) ▸ ge_b1))
 clear z12
 replace hb8 : Bk w11 b1 _ [.int .u64 z8, .int .u64 z11, .int .u64 (f 2), .int .u64 (f 3), .int .u64 (f 4)] := hb8
 refine ow_nil (tw_keep [(2, _), (3, _), (4, _), (5, _), (10, _)] ⟨rfl, rfl, rfl, rfl, rfl, trivial⟩ ?_)
 refine tw_b (tw_region (ow_g (g_fold (j := 2) (g_addw rfl rfl) (by decide)) rfl ?_))
 refine ow_g (g_mv rfl) rfl (ow_nil (tw_lp (tw_seq (tw_region (ow_g (g_lt rfl rfl) rfl ?_)))))
 refine ow_nil (tw_seq (tw_ifT rfl (by decide) ?_))
 refine tw_skip (tw_seq (tw_block (tw_seq (tw_region (ow_g (g_mv rfl) rfl (ow_g (g_as rfl) rfl ?_))))))
 refine ow_nil (tw_still 11 mixed (by decide +kernel) (fun w12 k12 => ?_))
 replace hb3 := hb3.keep0 k12
 replace hb5 := hb5.keep0 k12
 replace hb6 := hb6.keep0 k12
 replace hb8 := hb8.keep0 k12
 replace hB := hB.trans k12
 refine sw_g (g_mv rfl) rfl (sw_g (g_ixa Try.underlying26 ty24 rfl rfl (by decide)) rfl ?_)
 refine sw_g (g_ldb sc24 rfl hb8 rfl) rfl ?_
 refine sw_g (g_mv rfl) rfl (sw_g (g_ixa Try.underlying26 ty24 rfl rfl (by decide)) rfl ?_)
 refine sw_g (g_ldb sc24 rfl hb5 rfl) rfl ?_
 refine sw_g (g_mv rfl) rfl (sw_g (g_ixa Try.underlying26 ty24 rfl rfl (by decide)) rfl ?_)
 refine sw_g (g_ldb sc24 rfl hb6 rfl) rfl ?_
 refine sw_gx (e' := 4503599627370494 - (hh1 2)) (lo := 2251799813685247) (hi := 4503599627370494) (g_subw rfl rfl) (wrap_fit (in_sub (in_c 4503599627370494) r3) rfl) (In.wk (in_sub (in_c 4503599627370494) r3) rfl) rfl (fun z13 h5 r10 => ?_)
 refine sw_gx (e' := (f 2) + z13) (lo := 2251799813685247) (hi := 9007199254740989) (g_addw rfl rfl) (wrap_fit (in_add f2 r10) rfl) (In.wk (in_add f2 r10) rfl) rfl (fun z14 h6 r11 => ?_)
 refine sw_nil ?_
 refine ow_g (g_ixa Try.underlying26 ty24 rfl rfl (by decide)) rfl ?_
 refine ow_d0 (d_st ty24 rfl rfl rfl hb8 rfl) ?_
 rintro _ w13 ⟨hb9, k13, z15⟩
 replace hb3 := hb3.keep k13 (fun hm => absurd (List.mem_singleton.1 hm) (Ne.symm ne_b1_b3))
 replace hb5 := hb5.keep k13 (fun hm => absurd (List.mem_singleton.1 hm) (Ne.symm ne_b1_b4))
 replace hb6 := hb6.keep k13 (fun hm => absurd (List.mem_singleton.1 hm) (Ne.symm ne_b1_b2))
 replace hB := hB.new k13 (fun x hx => .inl ((List.mem_singleton.1 hx) ▸ ge_b1))
 clear z15
 replace hb9 : Bk w13 b1 _ [.int .u64 z8, .int .u64 z11, .int .u64 z14, .int .u64 (f 3), .int .u64 (f 4)] := hb9
 refine ow_nil (tw_keep [(2, _), (3, _), (4, _), (5, _), (10, _)] ⟨rfl, rfl, rfl, rfl, rfl, trivial⟩ ?_)
 refine tw_b (tw_region (ow_g (g_fold (j := 3) (g_addw rfl rfl) (by decide)) rfl ?_))
 refine ow_g (g_mv rfl) rfl (ow_nil (tw_lp (tw_seq (tw_region (ow_g (g_lt rfl rfl) rfl ?_)))))
 refine ow_nil (tw_seq (tw_ifT rfl (by decide) ?_))
 refine tw_skip (tw_seq (tw_block (tw_seq (tw_region (ow_g (g_mv rfl) rfl (ow_g (g_as rfl) rfl ?_))))))
 refine ow_nil (tw_still 11 mixed (by decide +kernel) (fun w14 k14 => ?_))
 replace hb3 := hb3.keep0 k14
 replace hb5 := hb5.keep0 k14
 replace hb6 := hb6.keep0 k14
 replace hb9 := hb9.keep0 k14
 replace hB := hB.trans k14
 refine sw_g (g_mv rfl) rfl (sw_g (g_ixa Try.underlying26 ty24 rfl rfl (by decide)) rfl ?_)
 refine sw_g (g_ldb sc24 rfl hb9 rfl) rfl ?_
 refine sw_g (g_mv rfl) rfl (sw_g (g_ixa Try.underlying26 ty24 rfl rfl (by decide)) rfl ?_)
 refine sw_g (g_ldb sc24 rfl hb5 rfl) rfl ?_
 refine sw_g (g_mv rfl) rfl (sw_g (g_ixa Try.underlying26 ty24 rfl rfl (by decide)) rfl ?_)
 refine sw_g (g_ldb sc24 rfl hb6 rfl) rfl ?_
 refine sw_gx (e' := 4503599627370494 - (hh1 3)) (lo := 2251799813685247) (hi := 4503599627370494) (g_subw rfl rfl) (wrap_fit (in_sub (in_c 4503599627370494) r4) rfl) (In.wk (in_sub (in_c 4503599627370494) r4) rfl) rfl (fun z16 h7 r12 => ?_)
 refine sw_gx (e' := (f 3) + z16) (lo := 2251799813685247) (hi := 9007199254740989) (g_addw rfl rfl) (wrap_fit (in_add f3 r12) rfl) (In.wk (in_add f3 r12) rfl) rfl (fun z17 h8 r13 => ?_)
 refine sw_nil ?_
 refine ow_g (g_ixa Try.underlying26 ty24 rfl rfl (by decide)) rfl ?_
 refine ow_d0 (d_st ty24 rfl rfl rfl hb9 rfl) ?_
 rintro _ w15 ⟨hb10, k15, z18⟩
 replace hb3 := hb3.keep k15 (fun hm => absurd (List.mem_singleton.1 hm) (Ne.symm ne_b1_b3))
 replace hb5 := hb5.keep k15 (fun hm => absurd (List.mem_singleton.1 hm) (Ne.symm ne_b1_b4))
 replace hb6 := hb6.keep k15 (fun hm => absurd (List.mem_singleton.1 hm) (Ne.symm ne_b1_b2))
 replace hB := hB.new k15 (fun x hx => .inl ((List.mem_singleton.1 hx) ▸ ge_b1))
 clear z18
 replace hb10 : Bk w15 b1 _ [.int .u64 z8, .int .u64 z11, .int .u64 z14, .int .u64 z17, .int .u64 (f 4)] := hb10
 refine ow_nil (tw_keep [(2, _), (3, _), (4, _), (5, _), (10, _)] ⟨rfl, rfl, rfl, rfl, rfl, trivial⟩ ?_)
 refine tw_b (tw_region (ow_g (g_fold (j := 4) (g_addw rfl rfl) (by decide)) rfl ?_))
 refine ow_g (g_mv rfl) rfl (ow_nil (tw_lp (tw_seq (tw_region (ow_g (g_lt rfl rfl) rfl ?_)))))
 refine ow_nil (tw_seq (tw_ifT rfl (by decide) ?_))
 refine tw_skip (tw_seq (tw_block (tw_seq (tw_region (ow_g (g_mv rfl) rfl (ow_g (g_as rfl) rfl ?_))))))
 refine ow_nil (tw_still 11 mixed (by decide +kernel) (fun w16 k16 => ?_))
 replace hb3 := hb3.keep0 k16
 replace hb5 := hb5.keep0 k16
 replace hb6 := hb6.keep0 k16
 replace hb10 := hb10.keep0 k16
 replace hB := hB.trans k16
 refine sw_g (g_mv rfl) rfl (sw_g (g_ixa Try.underlying26 ty24 rfl rfl (by decide)) rfl ?_)
 refine sw_g (g_ldb sc24 rfl hb10 rfl) rfl ?_
 refine sw_g (g_mv rfl) rfl (sw_g (g_ixa Try.underlying26 ty24 rfl rfl (by decide)) rfl ?_)
 refine sw_g (g_ldb sc24 rfl hb5 rfl) rfl ?_
 refine sw_g (g_mv rfl) rfl (sw_g (g_ixa Try.underlying26 ty24 rfl rfl (by decide)) rfl ?_)
 refine sw_g (g_ldb sc24 rfl hb6 rfl) rfl ?_
 refine sw_gx (e' := 4503599627370494 - (hh1 4)) (lo := 2251799813685247) (hi := 4503599627370494) (g_subw rfl rfl) (wrap_fit (in_sub (in_c 4503599627370494) r5) rfl) (In.wk (in_sub (in_c 4503599627370494) r5) rfl) rfl (fun z19 h9 r14 => ?_)
 refine sw_gx (e' := (f 4) + z19) (lo := 2251799813685247) (hi := 9007199254740989) (g_addw rfl rfl) (wrap_fit (in_add f4 r14) rfl) (In.wk (in_add f4 r14) rfl) rfl (fun z20 h10 r15 => ?_)
 refine sw_nil ?_
 refine ow_g (g_ixa Try.underlying26 ty24 rfl rfl (by decide)) rfl ?_
 refine ow_d0 (d_st ty24 rfl rfl rfl hb10 rfl) ?_
 rintro _ w17 ⟨hb11, k17, z21⟩
 replace hb3 := hb3.keep k17 (fun hm => absurd (List.mem_singleton.1 hm) (Ne.symm ne_b1_b3))
 replace hb5 := hb5.keep k17 (fun hm => absurd (List.mem_singleton.1 hm) (Ne.symm ne_b1_b4))
 replace hb6 := hb6.keep k17 (fun hm => absurd (List.mem_singleton.1 hm) (Ne.symm ne_b1_b2))
 replace hB := hB.new k17 (fun x hx => .inl ((List.mem_singleton.1 hx) ▸ ge_b1))
 clear z21
 replace hb11 : Bk w17 b1 _ [.int .u64 z8, .int .u64 z11, .int .u64 z14, .int .u64 z17, .int .u64 z20] := hb11
 refine ow_nil (tw_keep [(2, _), (3, _), (4, _), (5, _), (10, _)] ⟨rfl, rfl, rfl, rfl, rfl, trivial⟩ ?_)
 refine tw_b (tw_region (ow_g (g_fold (j := 5) (g_addw rfl rfl) (by decide)) rfl ?_))
 refine ow_g (g_mv rfl) rfl (ow_nil (tw_lp (tw_seq (tw_region (ow_g (g_lt rfl rfl) rfl ?_)))))
 refine ow_nil (tw_seq (tw_ifF rfl (by decide) ?_))
 refine tw_exit rfl ?_
 refine tw_seq (tw_region (ow_g (g_ldab (cs' := [_, _, _, _, _]) ag26 ty26 rfl hb11 rfl rfl) rfl ?_))
 refine ow_d (d_call (vs := [_]) rfl (carry_any (vecN [z8, z11, z14, z17, z20]) (In.wk r7 rfl) (In.wk r9 rfl) (In.wk r11 rfl) (In.wk r13 rfl) (In.wk r15 rfl) _)) rfl ?_
 rintro _ w18 ⟨hh2, c02, c12, c22, c32, c42, rfl, e02, e12, e22, e32, e42, g02, g12, g22, g32, g42, gv2, k18⟩
 replace hb3 := hb3.keep0 k18
 replace hb5 := hb5.keep0 k18
 replace hb6 := hb6.keep0 k18
 replace hb11 := hb11.keep0 k18
 replace hB := hB.trans k18
 replace e02 : c02 = z8 / 2251799813685248 := e02
 replace e12 : c12 = (z11 + c02) / 2251799813685248 := e12
 replace e22 : c22 = (z14 + c12) / 2251799813685248 := e22
 replace e32 : c32 = (z17 + c22) / 2251799813685248 := e32
 replace e42 : c42 = (z20 + c32) / 2251799813685248 := e42
 replace g02 : hh2 0 = z8 % 2251799813685248 + 19 * c42 := g02
 replace g12 : hh2 1 = (z11 + c02) % 2251799813685248 := g12
 replace g22 : hh2 2 = (z14 + c12) % 2251799813685248 := g22
 replace g32 : hh2 3 = (z17 + c22) % 2251799813685248 := g32
 replace g42 : hh2 4 = (z20 + c32) % 2251799813685248 := g42
 replace gv2 : val5 hh2 + c42 * 57896044618658097711785492504343953926634992332820282019728792003956564819949 = z8 + z11 * 2251799813685248 + z14 * 5070602400912917605986812821504 + z17 * 11417981541647679048466287755595961091061972992 + z20 * 25711008708143844408671393477458601640355247900524685364822016 := gv2
 obtain ⟨r16, r17, r18, r19, r20⟩ := carry_bounds (t := 2251799813685323) e02 e12 e22 e32 e42 g02 g12 g22 g32 g42 (In.wk r7 rfl : In _ 0 9007199254740953) (In.wk r9 rfl : In _ 0 9007199254740989) (In.wk r11 rfl : In _ 0 9007199254740989) (In.wk r13 rfl : In _ 0 9007199254740989) (In.wk r15 rfl : In _ 0 9007199254740989) rfl
 refine ow_d0 (d_sta ty26 rfl rfl rfl ivF_one hb3 rfl) ?_
 rintro _ w19 ⟨hb12, k19, z22⟩
 replace hb5 := hb5.keep k19 (fun hm => absurd (List.mem_singleton.1 hm) (Ne.symm ne_b3_b4))
 replace hb6 := hb6.keep k19 (fun hm => absurd (List.mem_singleton.1 hm) ne_b2_b3)
 replace hb11 := hb11.keep k19 (fun hm => absurd (List.mem_singleton.1 hm) ne_b1_b3)
 replace hB := hB.new k19 (fun x hx => .inl ((List.mem_singleton.1 hx) ▸ ge_b3))
 clear z22
 replace hb12 : Bk w19 b3 _ [.int .u64 (hh2 0), .int .u64 (hh2 1), .int .u64 (hh2 2), .int .u64 (hh2 3), .int .u64 (hh2 4)] := hb12
 refine ow_nil (tw_retc hfin Try.results72 rfl (run_loadAgg ag26 ty26 ‹_› rfl)  ?_)
 simp only [Eqn, In] at h1 r6 h2 r7 h3 r8 h4 r9 h5 r10 h6 r11 h7 r12 h8 r13 h9 r14 h10 r15 f0 f1 f2 f3 f4 g0 g1 g2 g3 g4
 exact ⟨hh2, rfl, ⟨(In.wk r16 rfl), (In.wk r17 rfl), (In.wk r18 rfl), (In.wk r19 rfl), (In.wk r20 rfl), by rw [show val5 hh2 = val5 f - val5 g + (2 - c42 + c41) * 57896044618658097711785492504343953926634992332820282019728792003956564819949 from by unfold val5 at *; omega, fp_eq (b := val5 f - val5 g) (2 - c42 + c41) rfl, fp_sub, hfv, hgv]⟩, hB⟩
end Go.Proofs.Ytkngeapegpehpaa.W
namespace Go.Proofs.Ytkngeapegpehpaa.W
open Go Go.Eng Go.Byt
set_option linter.unusedVariables false
set_option linter.unusedSimpArgs false
open Go.Fld Go.Ed
set_option maxRecDepth 100000 in
set_option maxHeartbeats 1000000 in
theorem mul_any (f g : Nat → Int) (a b : Fp) (hf : El f a) (hg : El g b) (w : World) : Rets Try.prog 70 [.agg (iv .u64 5 f).toArray, .agg (iv .u64 5 g).toArray] w (fun v w' => ∃ h, v = .agg (iv .u64 5 h).toArray ∧ El h (a * b) ∧ Keep [] w w') := by
 have hB : Keep [] w w := Keep.refl _ _
 obtain ⟨f0, f1, f2, f3, f4, hfv⟩ := hf
 obtain ⟨g0, g1, g2, g3, g4, hgv⟩ := hg
 refine rets_of_tw Try.func70 rfl (by decide) Try.ntmps70 rfl (fun fin _ hfin => ?_)
 refine tw_seq (tw_region (ow_d (d_box (cs := [.int .u64 (f 0), .int .u64 (f 1), .int .u64 (f 2), .int .u64 (f 3), .int .u64 (f 4)]) rfl rfl) rfl ?_))
 rintro _ w1 ⟨b1, rfl, eb1, hb1, k1, z1⟩
 have ge_b1 : w.heap.size ≤ b1 := by have := hB.size; omega
 replace hB := hB.trans k1
 clear eb1 z1
 refine ow_d (d_box (cs := [.int .u64 (g 0), .int .u64 (g 1), .int .u64 (g 2), .int .u64 (g 3), .int .u64 (g 4)]) rfl rfl) rfl ?_
 rintro _ w2 ⟨b2, rfl, eb2, hb2, k2, z2⟩
 have ge_b2 : w.heap.size ≤ b2 := by have := hB.size; omega
 have ne_b1_b2 : b1 ≠ b2 := by have := hb1.lt; omega
 replace hb1 := hb1.keep0 k2
 replace hB := hB.trans k2
 clear eb2 z2
 refine ow_d (d_alloc ty26) rfl ?_
 rintro _ w3 ⟨b3, rfl, eb3, hb3, k3, z3⟩
 have ge_b3 : w.heap.size ≤ b3 := by have := hB.size; omega
 have ne_b1_b3 : b1 ≠ b3 := by have := hb1.lt; omega
 have ne_b2_b3 : b2 ≠ b3 := by have := hb2.lt; omega
 replace hb1 := hb1.keep0 k3
 replace hb2 := hb2.keep0 k3
 replace hB := hB.trans k3
 clear eb3 z3
 refine ow_nil (tw_seq (tw_stillA mixed (by decide +kernel) (fun w4 k4 => ?_)))
 replace hb1 := hb1.keep0 k4
 replace hb2 := hb2.keep0 k4
 replace hb3 := hb3.keep0 k4
 replace hB := hB.trans k4
 refine sw_g (g_ixa Try.underlying26 ty24 rfl rfl (by decide)) rfl ?_
 refine sw_g (g_ldb sc24 rfl hb2 rfl) rfl ?_
 refine sw_gx (e' := 19 * (g 1)) (lo := 0) (hi := 85568392920039405) (g_mulw rfl rfl) (wrap_fit (in_cmul g1 (by decide)) rfl) (In.wk (in_cmul g1 (by decide)) rfl) rfl (fun z4 h1 r1 => ?_)
 refine sw_g (g_ixa Try.underlying26 ty24 rfl rfl (by decide)) rfl ?_
 refine sw_g (g_ldb sc24 rfl hb2 rfl) rfl ?_
 refine sw_gx (e' := 19 * (g 2)) (lo := 0) (hi := 85568392920039405) (g_mulw rfl rfl) (wrap_fit (in_cmul g2 (by decide)) rfl) (In.wk (in_cmul g2 (by decide)) rfl) rfl (fun z5 h2 r2 => ?_)
 refine sw_g (g_ixa Try.underlying26 ty24 rfl rfl (by decide)) rfl ?_
 refine sw_g (g_ldb sc24 rfl hb2 rfl) rfl ?_
 refine sw_gx (e' := 19 * (g 3)) (lo := 0) (hi := 85568392920039405) (g_mulw rfl rfl) (wrap_fit (in_cmul g3 (by decide)) rfl) (In.wk (in_cmul g3 (by decide)) rfl) rfl (fun z6 h3 r3 => ?_)
 refine sw_g (g_ixa Try.underlying26 ty24 rfl rfl (by decide)) rfl ?_
 refine sw_g (g_ldb sc24 rfl hb2 rfl) rfl ?_
 refine sw_gx (e' := 19 * (g 4)) (lo := 0) (hi := 85568392920039405) (g_mulw rfl rfl) (wrap_fit (in_cmul g4 (by decide)) rfl) (In.wk (in_cmul g4 (by decide)) rfl) rfl (fun z7 h4 r4 => ?_)
 refine sw_g (g_as rfl) rfl (sw_g (g_as rfl) rfl (sw_g (g_as rfl) rfl (sw_g (g_as rfl) rfl (sw_nil ?_))))
 refine ow_nil (tw_keep [(2, _), (3, _), (4, _), (5, _), (6, _), (7, _), (8, _)] ⟨rfl, rfl, rfl, rfl, rfl, rfl, rfl, trivial⟩ ?_)
 refine tw_seq ?_
 have gs1 := hB.size
 have lt1 := hb1.lt
 have lt2 := hb2.lt
 have lt3 := hb3.lt
 refine tw_planA 122 [0, 1, 2, 3, 4, 6, 7, 8, 10, 11, 12, 14, 15, 16, 18, 19, 20, 22, 23, 24, 25, 26, 28, 29, 30, 31, 33, 34, 35, 37, 38, 39, 41, 42, 43, 45, 46, 47, 48, 49, 51, 52, 53, 54, 56, 57, 58, 59, 61, 62, 63, 65, 66, 67, 69, 70, 71, 72, 73, 75, 76, 77, 78, 80, 81, 82, 83, 85, 86, 87, 88, 90, 91, 92, 94, 95, 96, 97, 98, 100, 101, 102, 103, 105, 106, 107, 108, 110, 111, 112, 113, 115, 116, 117, 118, 5, 9, 13, 17, 21, 27, 32, 36, 40, 44, 50, 55, 60, 64, 68, 74, 79, 84, 89, 93, 99, 104, 109, 114, 119, 120] [5, 9, 13, 17, 21, 27, 32, 36, 40, 44, 50, 55, 60, 64, 68, 74, 79, 84, 89, 93, 99, 104, 109, 114, 119] [] [(121, 108, [.int .u64 0, .int .u64 0, .int .u64 0, .int .u64 0, .int .u64 0, .int .u64 0, .int .u64 0, .int .u64 0, .int .u64 0, .int .u64 0])] mixed [(2, _), (3, _), (8, _), (7, _), (6, _), (5, _), (4, _)] ⟨rfl, rfl, rfl, rfl, rfl, rfl, rfl, trivial⟩ (by decide +kernel) (by decide) (by decide) ?_ (fun x hx => by cases hx) rfl (fun w5 k5 => ?_)
 · simp only [List.forall_mem_cons]; exact ⟨⟨_, _, _, _, _, _, rfl, ty108⟩, fun q hq => by cases hq⟩
 replace hb1 := hb1.keep0 k5
 replace hb2 := hb2.keep0 k5
 replace hb3 := hb3.keep0 k5
 replace hB := hB.trans k5
 refine pa_g [] rfl rfl trivial rfl (fun W' kk => g_bld (idx := []) (xs := []) (vs := []) (css := []) (out := [_, _]) pl106 ty106 rfl rfl trivial rfl rfl) ?_
 refine pa_g [(2, _)] rfl rfl ⟨rfl, trivial⟩ rfl (fun W' kk => g_ixa Try.underlying26 ty24 rfl rfl (by decide)) ?_
 refine pa_g [(29, _)] rfl rfl ⟨rfl, trivial⟩ rfl (fun W' kk => g_ldb sc24 rfl (Bk.keep0 hb1 kk) rfl) ?_
 refine pa_g [(3, _)] rfl rfl ⟨rfl, trivial⟩ rfl (fun W' kk => g_ixa Try.underlying26 ty24 rfl rfl (by decide)) ?_
 refine pa_g [(31, _)] rfl rfl ⟨rfl, trivial⟩ rfl (fun W' kk => g_ldb sc24 rfl (Bk.keep0 hb2 kk) rfl) ?_
 refine pa_g [(2, _)] rfl rfl ⟨rfl, trivial⟩ rfl (fun W' kk => g_ixa Try.underlying26 ty24 rfl rfl (by decide)) ?_
 refine pa_g [(34, _)] rfl rfl ⟨rfl, trivial⟩ rfl (fun W' kk => g_ldb sc24 rfl (Bk.keep0 hb1 kk) rfl) ?_
 refine pa_g [(8, _)] rfl rfl ⟨rfl, trivial⟩ rfl (fun W' kk => g_mv rfl) ?_
 refine pa_g [(2, _)] rfl rfl ⟨rfl, trivial⟩ rfl (fun W' kk => g_ixa Try.underlying26 ty24 rfl rfl (by decide)) ?_
 refine pa_g [(38, _)] rfl rfl ⟨rfl, trivial⟩ rfl (fun W' kk => g_ldb sc24 rfl (Bk.keep0 hb1 kk) rfl) ?_
 refine pa_g [(7, _)] rfl rfl ⟨rfl, trivial⟩ rfl (fun W' kk => g_mv rfl) ?_
 refine pa_g [(2, _)] rfl rfl ⟨rfl, trivial⟩ rfl (fun W' kk => g_ixa Try.underlying26 ty24 rfl rfl (by decide)) ?_
 refine pa_g [(42, _)] rfl rfl ⟨rfl, trivial⟩ rfl (fun W' kk => g_ldb sc24 rfl (Bk.keep0 hb1 kk) rfl) ?_
 refine pa_g [(6, _)] rfl rfl ⟨rfl, trivial⟩ rfl (fun W' kk => g_mv rfl) ?_
 refine pa_g [(2, _)] rfl rfl ⟨rfl, trivial⟩ rfl (fun W' kk => g_ixa Try.underlying26 ty24 rfl rfl (by decide)) ?_
 refine pa_g [(46, _)] rfl rfl ⟨rfl, trivial⟩ rfl (fun W' kk => g_ldb sc24 rfl (Bk.keep0 hb1 kk) rfl) ?_
 refine pa_g [(5, _)] rfl rfl ⟨rfl, trivial⟩ rfl (fun W' kk => g_mv rfl) ?_
 refine pa_g [] rfl rfl trivial rfl (fun W' kk => g_bld (idx := []) (xs := []) (vs := []) (css := []) (out := [_, _]) pl106 ty106 rfl rfl trivial rfl rfl) ?_
 refine pa_g [(2, _)] rfl rfl ⟨rfl, trivial⟩ rfl (fun W' kk => g_ixa Try.underlying26 ty24 rfl rfl (by decide)) ?_
 refine pa_g [(51, _)] rfl rfl ⟨rfl, trivial⟩ rfl (fun W' kk => g_ldb sc24 rfl (Bk.keep0 hb1 kk) rfl) ?_
 refine pa_g [(3, _)] rfl rfl ⟨rfl, trivial⟩ rfl (fun W' kk => g_ixa Try.underlying26 ty24 rfl rfl (by decide)) ?_
 refine pa_g [(53, _)] rfl rfl ⟨rfl, trivial⟩ rfl (fun W' kk => g_ldb sc24 rfl (Bk.keep0 hb2 kk) rfl) ?_
 refine pa_g [(2, _)] rfl rfl ⟨rfl, trivial⟩ rfl (fun W' kk => g_ixa Try.underlying26 ty24 rfl rfl (by decide)) ?_
 refine pa_g [(56, _)] rfl rfl ⟨rfl, trivial⟩ rfl (fun W' kk => g_ldb sc24 rfl (Bk.keep0 hb1 kk) rfl) ?_
 refine pa_g [(3, _)] rfl rfl ⟨rfl, trivial⟩ rfl (fun W' kk => g_ixa Try.underlying26 ty24 rfl rfl (by decide)) ?_
 refine pa_g [(58, _)] rfl rfl ⟨rfl, trivial⟩ rfl (fun W' kk => g_ldb sc24 rfl (Bk.keep0 hb2 kk) rfl) ?_
 refine pa_g [(2, _)] rfl rfl ⟨rfl, trivial⟩ rfl (fun W' kk => g_ixa Try.underlying26 ty24 rfl rfl (by decide)) ?_
 refine pa_g [(61, _)] rfl rfl ⟨rfl, trivial⟩ rfl (fun W' kk => g_ldb sc24 rfl (Bk.keep0 hb1 kk) rfl) ?_
 refine pa_g [(8, _)] rfl rfl ⟨rfl, trivial⟩ rfl (fun W' kk => g_mv rfl) ?_
 refine pa_g [(2, _)] rfl rfl ⟨rfl, trivial⟩ rfl (fun W' kk => g_ixa Try.underlying26 ty24 rfl rfl (by decide)) ?_
 refine pa_g [(65, _)] rfl rfl ⟨rfl, trivial⟩ rfl (fun W' kk => g_ldb sc24 rfl (Bk.keep0 hb1 kk) rfl) ?_
 refine pa_g [(7, _)] rfl rfl ⟨rfl, trivial⟩ rfl (fun W' kk => g_mv rfl) ?_
 refine pa_g [(2, _)] rfl rfl ⟨rfl, trivial⟩ rfl (fun W' kk => g_ixa Try.underlying26 ty24 rfl rfl (by decide)) ?_
 refine pa_g [(69, _)] rfl rfl ⟨rfl, trivial⟩ rfl (fun W' kk => g_ldb sc24 rfl (Bk.keep0 hb1 kk) rfl) ?_
 refine pa_g [(6, _)] rfl rfl ⟨rfl, trivial⟩ rfl (fun W' kk => g_mv rfl) ?_
 refine pa_g [] rfl rfl trivial rfl (fun W' kk => g_bld (idx := []) (xs := []) (vs := []) (css := []) (out := [_, _]) pl106 ty106 rfl rfl trivial rfl rfl) ?_
 refine pa_g [(2, _)] rfl rfl ⟨rfl, trivial⟩ rfl (fun W' kk => g_ixa Try.underlying26 ty24 rfl rfl (by decide)) ?_
 refine pa_g [(74, _)] rfl rfl ⟨rfl, trivial⟩ rfl (fun W' kk => g_ldb sc24 rfl (Bk.keep0 hb1 kk) rfl) ?_
 refine pa_g [(3, _)] rfl rfl ⟨rfl, trivial⟩ rfl (fun W' kk => g_ixa Try.underlying26 ty24 rfl rfl (by decide)) ?_
 refine pa_g [(76, _)] rfl rfl ⟨rfl, trivial⟩ rfl (fun W' kk => g_ldb sc24 rfl (Bk.keep0 hb2 kk) rfl) ?_
 refine pa_g [(2, _)] rfl rfl ⟨rfl, trivial⟩ rfl (fun W' kk => g_ixa Try.underlying26 ty24 rfl rfl (by decide)) ?_
 refine pa_g [(79, _)] rfl rfl ⟨rfl, trivial⟩ rfl (fun W' kk => g_ldb sc24 rfl (Bk.keep0 hb1 kk) rfl) ?_
 refine pa_g [(3, _)] rfl rfl ⟨rfl, trivial⟩ rfl (fun W' kk => g_ixa Try.underlying26 ty24 rfl rfl (by decide)) ?_
 refine pa_g [(81, _)] rfl rfl ⟨rfl, trivial⟩ rfl (fun W' kk => g_ldb sc24 rfl (Bk.keep0 hb2 kk) rfl) ?_
 refine pa_g [(2, _)] rfl rfl ⟨rfl, trivial⟩ rfl (fun W' kk => g_ixa Try.underlying26 ty24 rfl rfl (by decide)) ?_
 refine pa_g [(84, _)] rfl rfl ⟨rfl, trivial⟩ rfl (fun W' kk => g_ldb sc24 rfl (Bk.keep0 hb1 kk) rfl) ?_
 refine pa_g [(3, _)] rfl rfl ⟨rfl, trivial⟩ rfl (fun W' kk => g_ixa Try.underlying26 ty24 rfl rfl (by decide)) ?_
 refine pa_g [(86, _)] rfl rfl ⟨rfl, trivial⟩ rfl (fun W' kk => g_ldb sc24 rfl (Bk.keep0 hb2 kk) rfl) ?_
 refine pa_g [(2, _)] rfl rfl ⟨rfl, trivial⟩ rfl (fun W' kk => g_ixa Try.underlying26 ty24 rfl rfl (by decide)) ?_
 refine pa_g [(89, _)] rfl rfl ⟨rfl, trivial⟩ rfl (fun W' kk => g_ldb sc24 rfl (Bk.keep0 hb1 kk) rfl) ?_
 refine pa_g [(8, _)] rfl rfl ⟨rfl, trivial⟩ rfl (fun W' kk => g_mv rfl) ?_
 refine pa_g [(2, _)] rfl rfl ⟨rfl, trivial⟩ rfl (fun W' kk => g_ixa Try.underlying26 ty24 rfl rfl (by decide)) ?_
 refine pa_g [(93, _)] rfl rfl ⟨rfl, trivial⟩ rfl (fun W' kk => g_ldb sc24 rfl (Bk.keep0 hb1 kk) rfl) ?_
 refine pa_g [(7, _)] rfl rfl ⟨rfl, trivial⟩ rfl (fun W' kk => g_mv rfl) ?_
 refine pa_g [] rfl rfl trivial rfl (fun W' kk => g_bld (idx := []) (xs := []) (vs := []) (css := []) (out := [_, _]) pl106 ty106 rfl rfl trivial rfl rfl) ?_
 refine pa_g [(2, _)] rfl rfl ⟨rfl, trivial⟩ rfl (fun W' kk => g_ixa Try.underlying26 ty24 rfl rfl (by decide)) ?_
 refine pa_g [(98, _)] rfl rfl ⟨rfl, trivial⟩ rfl (fun W' kk => g_ldb sc24 rfl (Bk.keep0 hb1 kk) rfl) ?_
 refine pa_g [(3, _)] rfl rfl ⟨rfl, trivial⟩ rfl (fun W' kk => g_ixa Try.underlying26 ty24 rfl rfl (by decide)) ?_
 refine pa_g [(100, _)] rfl rfl ⟨rfl, trivial⟩ rfl (fun W' kk => g_ldb sc24 rfl (Bk.keep0 hb2 kk) rfl) ?_
 refine pa_g [(2, _)] rfl rfl ⟨rfl, trivial⟩ rfl (fun W' kk => g_ixa Try.underlying26 ty24 rfl rfl (by decide)) ?_
 refine pa_g [(103, _)] rfl rfl ⟨rfl, trivial⟩ rfl (fun W' kk => g_ldb sc24 rfl (Bk.keep0 hb1 kk) rfl) ?_
 refine pa_g [(3, _)] rfl rfl ⟨rfl, trivial⟩ rfl (fun W' kk => g_ixa Try.underlying26 ty24 rfl rfl (by decide)) ?_
 refine pa_g [(105, _)] rfl rfl ⟨rfl, trivial⟩ rfl (fun W' kk => g_ldb sc24 rfl (Bk.keep0 hb2 kk) rfl) ?_
 refine pa_g [(2, _)] rfl rfl ⟨rfl, trivial⟩ rfl (fun W' kk => g_ixa Try.underlying26 ty24 rfl rfl (by decide)) ?_
 refine pa_g [(108, _)] rfl rfl ⟨rfl, trivial⟩ rfl (fun W' kk => g_ldb sc24 rfl (Bk.keep0 hb1 kk) rfl) ?_
 refine pa_g [(3, _)] rfl rfl ⟨rfl, trivial⟩ rfl (fun W' kk => g_ixa Try.underlying26 ty24 rfl rfl (by decide)) ?_
 refine pa_g [(110, _)] rfl rfl ⟨rfl, trivial⟩ rfl (fun W' kk => g_ldb sc24 rfl (Bk.keep0 hb2 kk) rfl) ?_
 refine pa_g [(2, _)] rfl rfl ⟨rfl, trivial⟩ rfl (fun W' kk => g_ixa Try.underlying26 ty24 rfl rfl (by decide)) ?_
 refine pa_g [(113, _)] rfl rfl ⟨rfl, trivial⟩ rfl (fun W' kk => g_ldb sc24 rfl (Bk.keep0 hb1 kk) rfl) ?_
 refine pa_g [(3, _)] rfl rfl ⟨rfl, trivial⟩ rfl (fun W' kk => g_ixa Try.underlying26 ty24 rfl rfl (by decide)) ?_
 refine pa_g [(115, _)] rfl rfl ⟨rfl, trivial⟩ rfl (fun W' kk => g_ldb sc24 rfl (Bk.keep0 hb2 kk) rfl) ?_
 refine pa_g [(2, _)] rfl rfl ⟨rfl, trivial⟩ rfl (fun W' kk => g_ixa Try.underlying26 ty24 rfl rfl (by decide)) ?_
 refine pa_g [(118, _)] rfl rfl ⟨rfl, trivial⟩ rfl (fun W' kk => g_ldb sc24 rfl (Bk.keep0 hb1 kk) rfl) ?_
 refine pa_g [(8, _)] rfl rfl ⟨rfl, trivial⟩ rfl (fun W' kk => g_mv rfl) ?_
 refine pa_g [] rfl rfl trivial rfl (fun W' kk => g_bld (idx := []) (xs := []) (vs := []) (css := []) (out := [_, _]) pl106 ty106 rfl rfl trivial rfl rfl) ?_
 refine pa_g [(2, _)] rfl rfl ⟨rfl, trivial⟩ rfl (fun W' kk => g_ixa Try.underlying26 ty24 rfl rfl (by decide)) ?_
 refine pa_g [(123, _)] rfl rfl ⟨rfl, trivial⟩ rfl (fun W' kk => g_ldb sc24 rfl (Bk.keep0 hb1 kk) rfl) ?_
 refine pa_g [(3, _)] rfl rfl ⟨rfl, trivial⟩ rfl (fun W' kk => g_ixa Try.underlying26 ty24 rfl rfl (by decide)) ?_
 refine pa_g [(125, _)] rfl rfl ⟨rfl, trivial⟩ rfl (fun W' kk => g_ldb sc24 rfl (Bk.keep0 hb2 kk) rfl) ?_
 refine pa_g [(2, _)] rfl rfl ⟨rfl, trivial⟩ rfl (fun W' kk => g_ixa Try.underlying26 ty24 rfl rfl (by decide)) ?_
 refine pa_g [(128, _)] rfl rfl ⟨rfl, trivial⟩ rfl (fun W' kk => g_ldb sc24 rfl (Bk.keep0 hb1 kk) rfl) ?_
 refine pa_g [(3, _)] rfl rfl ⟨rfl, trivial⟩ rfl (fun W' kk => g_ixa Try.underlying26 ty24 rfl rfl (by decide)) ?_
 refine pa_g [(130, _)] rfl rfl ⟨rfl, trivial⟩ rfl (fun W' kk => g_ldb sc24 rfl (Bk.keep0 hb2 kk) rfl) ?_
 refine pa_g [(2, _)] rfl rfl ⟨rfl, trivial⟩ rfl (fun W' kk => g_ixa Try.underlying26 ty24 rfl rfl (by decide)) ?_
 refine pa_g [(133, _)] rfl rfl ⟨rfl, trivial⟩ rfl (fun W' kk => g_ldb sc24 rfl (Bk.keep0 hb1 kk) rfl) ?_
 refine pa_g [(3, _)] rfl rfl ⟨rfl, trivial⟩ rfl (fun W' kk => g_ixa Try.underlying26 ty24 rfl rfl (by decide)) ?_
 refine pa_g [(135, _)] rfl rfl ⟨rfl, trivial⟩ rfl (fun W' kk => g_ldb sc24 rfl (Bk.keep0 hb2 kk) rfl) ?_
 refine pa_g [(2, _)] rfl rfl ⟨rfl, trivial⟩ rfl (fun W' kk => g_ixa Try.underlying26 ty24 rfl rfl (by decide)) ?_
 refine pa_g [(138, _)] rfl rfl ⟨rfl, trivial⟩ rfl (fun W' kk => g_ldb sc24 rfl (Bk.keep0 hb1 kk) rfl) ?_
 refine pa_g [(3, _)] rfl rfl ⟨rfl, trivial⟩ rfl (fun W' kk => g_ixa Try.underlying26 ty24 rfl rfl (by decide)) ?_
 refine pa_g [(140, _)] rfl rfl ⟨rfl, trivial⟩ rfl (fun W' kk => g_ldb sc24 rfl (Bk.keep0 hb2 kk) rfl) ?_
 refine pa_g [(2, _)] rfl rfl ⟨rfl, trivial⟩ rfl (fun W' kk => g_ixa Try.underlying26 ty24 rfl rfl (by decide)) ?_
 refine pa_g [(143, _)] rfl rfl ⟨rfl, trivial⟩ rfl (fun W' kk => g_ldb sc24 rfl (Bk.keep0 hb1 kk) rfl) ?_
 refine pa_g [(3, _)] rfl rfl ⟨rfl, trivial⟩ rfl (fun W' kk => g_ixa Try.underlying26 ty24 rfl rfl (by decide)) ?_
 refine pa_g [(145, _)] rfl rfl ⟨rfl, trivial⟩ rfl (fun W' kk => g_ldb sc24 rfl (Bk.keep0 hb2 kk) rfl) ?_
 refine pa_d [(28, _), (30, _), (32, _)] rfl rfl ⟨rfl, rfl, rfl, trivial⟩ rfl (fun w7 k7 => ?_)
 replace hb1 := hb1.keep0 k7
 replace hb2 := hb2.keep0 k7
 replace hb3 := hb3.keep0 k7
 replace hB := hB.trans k7
 refine (d_call (vs := [_, _, _]) rfl (plus_any 0 0 (f 0) (g 0) 0 20282409603651661416747996545025 20282409603651661416747996545025 1099511627775 (by decide) (by decide) (In.wk f0 rfl) (In.wk g0 rfl) (by decide) (in_mul f0 g0 (by decide) (by decide)).2 (by decide) (by decide) (by decide) _)).mono ?_
 rintro _ w6 ⟨hi1, lo1, rfl, ra1, rb1, eq1, le1, k6⟩
 refine ⟨k6, (fun x hx => by have hx : x ∈ ([] : List Nat) := hx; cases hx), ?_⟩
 replace hb1 := hb1.keep0 k6
 replace hb2 := hb2.keep0 k6
 replace hb3 := hb3.keep0 k6
 replace hB := hB.trans k6
 refine pa_d [(33, _), (35, _), (36, _)] rfl rfl ⟨rfl, rfl, rfl, trivial⟩ rfl (fun w9 k9 => ?_)
 replace hb1 := hb1.keep0 k9
 replace hb2 := hb2.keep0 k9
 replace hb3 := hb3.keep0 k9
 replace hB := hB.trans k9
 refine (d_call (vs := [_, _, _]) rfl (plus_any hi1 lo1 (f 1) z7 20282409603651661416747996545025 385365782469381566918211934355475 405648192073033228334959930900500 21990232555519 (In.wk ra1 rfl) rb1 (In.wk f1 rfl) (In.wk r4 rfl) le1 (in_mul f1 r4 (by decide) (by decide)).2 (by decide) (by decide) (by decide) _)).mono ?_
 rintro _ w8 ⟨hi2, lo2, rfl, ra2, rb2, eq2, le2, k8⟩
 refine ⟨k8, (fun x hx => by have hx : x ∈ ([] : List Nat) := hx; cases hx), ?_⟩
 replace hb1 := hb1.keep0 k8
 replace hb2 := hb2.keep0 k8
 replace hb3 := hb3.keep0 k8
 replace hB := hB.trans k8
 refine pa_d [(37, _), (39, _), (40, _)] rfl rfl ⟨rfl, rfl, rfl, trivial⟩ rfl (fun w11 k11 => ?_)
 replace hb1 := hb1.keep0 k11
 replace hb2 := hb2.keep0 k11
 replace hb3 := hb3.keep0 k11
 replace hB := hB.trans k11
 refine (d_call (vs := [_, _, _]) rfl (plus_any hi2 lo2 (f 2) z6 405648192073033228334959930900500 385365782469381566918211934355475 791013974542414795253171865255975 42880953483263 (In.wk ra2 rfl) rb2 (In.wk f2 rfl) (In.wk r3 rfl) le2 (in_mul f2 r3 (by decide) (by decide)).2 (by decide) (by decide) (by decide) _)).mono ?_
 rintro _ w10 ⟨hi3, lo3, rfl, ra3, rb3, eq3, le3, k10⟩
 refine ⟨k10, (fun x hx => by have hx : x ∈ ([] : List Nat) := hx; cases hx), ?_⟩
 replace hb1 := hb1.keep0 k10
 replace hb2 := hb2.keep0 k10
 replace hb3 := hb3.keep0 k10
 replace hB := hB.trans k10
 refine pa_d [(41, _), (43, _), (44, _)] rfl rfl ⟨rfl, rfl, rfl, trivial⟩ rfl (fun w13 k13 => ?_)
 replace hb1 := hb1.keep0 k13
 replace hb2 := hb2.keep0 k13
 replace hb3 := hb3.keep0 k13
 replace hB := hB.trans k13
 refine (d_call (vs := [_, _, _]) rfl (plus_any hi3 lo3 (f 3) z5 791013974542414795253171865255975 385365782469381566918211934355475 1176379757011796362171383799611450 63771674411007 (In.wk ra3 rfl) rb3 (In.wk f3 rfl) (In.wk r2 rfl) le3 (in_mul f3 r2 (by decide) (by decide)).2 (by decide) (by decide) (by decide) _)).mono ?_
 rintro _ w12 ⟨hi4, lo4, rfl, ra4, rb4, eq4, le4, k12⟩
 refine ⟨k12, (fun x hx => by have hx : x ∈ ([] : List Nat) := hx; cases hx), ?_⟩
 replace hb1 := hb1.keep0 k12
 replace hb2 := hb2.keep0 k12
 replace hb3 := hb3.keep0 k12
 replace hB := hB.trans k12
 refine pa_d [(45, _), (47, _), (48, _)] rfl rfl ⟨rfl, rfl, rfl, trivial⟩ rfl (fun w15 k15 => ?_)
 replace hb1 := hb1.keep0 k15
 replace hb2 := hb2.keep0 k15
 replace hb3 := hb3.keep0 k15
 replace hB := hB.trans k15
 refine (d_call (vs := [_, _, _]) rfl (plus_any hi4 lo4 (f 4) z4 1176379757011796362171383799611450 385365782469381566918211934355475 1561745539481177929089595733966925 84662395338751 (In.wk ra4 rfl) rb4 (In.wk f4 rfl) (In.wk r1 rfl) le4 (in_mul f4 r1 (by decide) (by decide)).2 (by decide) (by decide) (by decide) _)).mono ?_
 rintro _ w14 ⟨hi5, lo5, rfl, ra5, rb5, eq5, le5, k14⟩
 refine ⟨k14, (fun x hx => by have hx : x ∈ ([] : List Nat) := hx; cases hx), ?_⟩
 replace hb1 := hb1.keep0 k14
 replace hb2 := hb2.keep0 k14
 replace hb3 := hb3.keep0 k14
 replace hB := hB.trans k14
 refine pa_d [(50, _), (52, _), (54, _)] rfl rfl ⟨rfl, rfl, rfl, trivial⟩ rfl (fun w17 k17 => ?_)
 replace hb1 := hb1.keep0 k17
 replace hb2 := hb2.keep0 k17
 replace hb3 := hb3.keep0 k17
 replace hB := hB.trans k17
 refine (d_call (vs := [_, _, _]) rfl (plus_any 0 0 (f 0) (g 1) 0 20282409603651661416747996545025 20282409603651661416747996545025 1099511627775 (by decide) (by decide) (In.wk f0 rfl) (In.wk g1 rfl) (by decide) (in_mul f0 g1 (by decide) (by decide)).2 (by decide) (by decide) (by decide) _)).mono ?_
 rintro _ w16 ⟨hi6, lo6, rfl, ra6, rb6, eq6, le6, k16⟩
 refine ⟨k16, (fun x hx => by have hx : x ∈ ([] : List Nat) := hx; cases hx), ?_⟩
 replace hb1 := hb1.keep0 k16
 replace hb2 := hb2.keep0 k16
 replace hb3 := hb3.keep0 k16
 replace hB := hB.trans k16
 refine pa_d [(55, _), (57, _), (59, _)] rfl rfl ⟨rfl, rfl, rfl, trivial⟩ rfl (fun w19 k19 => ?_)
 replace hb1 := hb1.keep0 k19
 replace hb2 := hb2.keep0 k19
 replace hb3 := hb3.keep0 k19
 replace hB := hB.trans k19
 refine (d_call (vs := [_, _, _]) rfl (plus_any hi6 lo6 (f 1) (g 0) 20282409603651661416747996545025 20282409603651661416747996545025 40564819207303322833495993090050 2199023255551 (In.wk ra6 rfl) rb6 (In.wk f1 rfl) (In.wk g0 rfl) le6 (in_mul f1 g0 (by decide) (by decide)).2 (by decide) (by decide) (by decide) _)).mono ?_
 rintro _ w18 ⟨hi7, lo7, rfl, ra7, rb7, eq7, le7, k18⟩
 refine ⟨k18, (fun x hx => by have hx : x ∈ ([] : List Nat) := hx; cases hx), ?_⟩
 replace hb1 := hb1.keep0 k18
 replace hb2 := hb2.keep0 k18
 replace hb3 := hb3.keep0 k18
 replace hB := hB.trans k18
 refine pa_d [(60, _), (62, _), (63, _)] rfl rfl ⟨rfl, rfl, rfl, trivial⟩ rfl (fun w21 k21 => ?_)
 replace hb1 := hb1.keep0 k21
 replace hb2 := hb2.keep0 k21
 replace hb3 := hb3.keep0 k21
 replace hB := hB.trans k21
 refine (d_call (vs := [_, _, _]) rfl (plus_any hi7 lo7 (f 2) z7 40564819207303322833495993090050 385365782469381566918211934355475 425930601676684889751707927445525 23089744183295 (In.wk ra7 rfl) rb7 (In.wk f2 rfl) (In.wk r4 rfl) le7 (in_mul f2 r4 (by decide) (by decide)).2 (by decide) (by decide) (by decide) _)).mono ?_
 rintro _ w20 ⟨hi8, lo8, rfl, ra8, rb8, eq8, le8, k20⟩
 refine ⟨k20, (fun x hx => by have hx : x ∈ ([] : List Nat) := hx; cases hx), ?_⟩
 replace hb1 := hb1.keep0 k20
 replace hb2 := hb2.keep0 k20
 replace hb3 := hb3.keep0 k20
 replace hB := hB.trans k20
 refine pa_d [(64, _), (66, _), (67, _)] rfl rfl ⟨rfl, rfl, rfl, trivial⟩ rfl (fun w23 k23 => ?_)
 replace hb1 := hb1.keep0 k23
 replace hb2 := hb2.keep0 k23
 replace hb3 := hb3.keep0 k23
 replace hB := hB.trans k23
 refine (d_call (vs := [_, _, _]) rfl (plus_any hi8 lo8 (f 3) z6 425930601676684889751707927445525 385365782469381566918211934355475 811296384146066456669919861801000 43980465111039 (In.wk ra8 rfl) rb8 (In.wk f3 rfl) (In.wk r3 rfl) le8 (in_mul f3 r3 (by decide) (by decide)).2 (by decide) (by decide) (by decide) _)).mono ?_
 rintro _ w22 ⟨hi9, lo9, rfl, ra9, rb9, eq9, le9, k22⟩
 refine ⟨k22, (fun x hx => by have hx : x ∈ ([] : List Nat) := hx; cases hx), ?_⟩
 replace hb1 := hb1.keep0 k22
 replace hb2 := hb2.keep0 k22
 replace hb3 := hb3.keep0 k22
 replace hB := hB.trans k22
 refine pa_d [(68, _), (70, _), (71, _)] rfl rfl ⟨rfl, rfl, rfl, trivial⟩ rfl (fun w25 k25 => ?_)
 replace hb1 := hb1.keep0 k25
 replace hb2 := hb2.keep0 k25
 replace hb3 := hb3.keep0 k25
 replace hB := hB.trans k25
 refine (d_call (vs := [_, _, _]) rfl (plus_any hi9 lo9 (f 4) z5 811296384146066456669919861801000 385365782469381566918211934355475 1196662166615448023588131796156475 64871186038783 (In.wk ra9 rfl) rb9 (In.wk f4 rfl) (In.wk r2 rfl) le9 (in_mul f4 r2 (by decide) (by decide)).2 (by decide) (by decide) (by decide) _)).mono ?_
 rintro _ w24 ⟨hi10, lo10, rfl, ra10, rb10, eq10, le10, k24⟩
 refine ⟨k24, (fun x hx => by have hx : x ∈ ([] : List Nat) := hx; cases hx), ?_⟩
 replace hb1 := hb1.keep0 k24
 replace hb2 := hb2.keep0 k24
 replace hb3 := hb3.keep0 k24
 replace hB := hB.trans k24
 refine pa_d [(73, _), (75, _), (77, _)] rfl rfl ⟨rfl, rfl, rfl, trivial⟩ rfl (fun w27 k27 => ?_)
 replace hb1 := hb1.keep0 k27
 replace hb2 := hb2.keep0 k27
 replace hb3 := hb3.keep0 k27
 replace hB := hB.trans k27
 refine (d_call (vs := [_, _, _]) rfl (plus_any 0 0 (f 0) (g 2) 0 20282409603651661416747996545025 20282409603651661416747996545025 1099511627775 (by decide) (by decide) (In.wk f0 rfl) (In.wk g2 rfl) (by decide) (in_mul f0 g2 (by decide) (by decide)).2 (by decide) (by decide) (by decide) _)).mono ?_
 rintro _ w26 ⟨hi11, lo11, rfl, ra11, rb11, eq11, le11, k26⟩
 refine ⟨k26, (fun x hx => by have hx : x ∈ ([] : List Nat) := hx; cases hx), ?_⟩
 replace hb1 := hb1.keep0 k26
 replace hb2 := hb2.keep0 k26
 replace hb3 := hb3.keep0 k26
 replace hB := hB.trans k26
 refine pa_d [(78, _), (80, _), (82, _)] rfl rfl ⟨rfl, rfl, rfl, trivial⟩ rfl (fun w29 k29 => ?_)
 replace hb1 := hb1.keep0 k29
 replace hb2 := hb2.keep0 k29
 replace hb3 := hb3.keep0 k29
 replace hB := hB.trans k29
 refine (d_call (vs := [_, _, _]) rfl (plus_any hi11 lo11 (f 1) (g 1) 20282409603651661416747996545025 20282409603651661416747996545025 40564819207303322833495993090050 2199023255551 (In.wk ra11 rfl) rb11 (In.wk f1 rfl) (In.wk g1 rfl) le11 (in_mul f1 g1 (by decide) (by decide)).2 (by decide) (by decide) (by decide) _)).mono ?_
 rintro _ w28 ⟨hi12, lo12, rfl, ra12, rb12, eq12, le12, k28⟩
 refine ⟨k28, (fun x hx => by have hx : x ∈ ([] : List Nat) := hx; cases hx), ?_⟩
 replace hb1 := hb1.keep0 k28
 replace hb2 := hb2.keep0 k28
 replace hb3 := hb3.keep0 k28
 replace hB := hB.trans k28
 refine pa_d [(83, _), (85, _), (87, _)] rfl rfl ⟨rfl, rfl, rfl, trivial⟩ rfl (fun w31 k31 => ?_)
 replace hb1 := hb1.keep0 k31
 replace hb2 := hb2.keep0 k31
 replace hb3 := hb3.keep0 k31
 replace hB := hB.trans k31
 refine (d_call (vs := [_, _, _]) rfl (plus_any hi12 lo12 (f 2) (g 0) 40564819207303322833495993090050 20282409603651661416747996545025 60847228810954984250243989635075 3298534883327 (In.wk ra12 rfl) rb12 (In.wk f2 rfl) (In.wk g0 rfl) le12 (in_mul f2 g0 (by decide) (by decide)).2 (by decide) (by decide) (by decide) _)).mono ?_
 rintro _ w30 ⟨hi13, lo13, rfl, ra13, rb13, eq13, le13, k30⟩
 refine ⟨k30, (fun x hx => by have hx : x ∈ ([] : List Nat) := hx; cases hx), ?_⟩
 replace hb1 := hb1.keep0 k30
 replace hb2 := hb2.keep0 k30
 replace hb3 := hb3.keep0 k30
 replace hB := hB.trans k30
 refine pa_d [(88, _), (90, _), (91, _)] rfl rfl ⟨rfl, rfl, rfl, trivial⟩ rfl (fun w33 k33 => ?_)
 replace hb1 := hb1.keep0 k33
 replace hb2 := hb2.keep0 k33
 replace hb3 := hb3.keep0 k33
 replace hB := hB.trans k33
 refine (d_call (vs := [_, _, _]) rfl (plus_any hi13 lo13 (f 3) z7 60847228810954984250243989635075 385365782469381566918211934355475 446213011280336551168455923990550 24189255811071 (In.wk ra13 rfl) rb13 (In.wk f3 rfl) (In.wk r4 rfl) le13 (in_mul f3 r4 (by decide) (by decide)).2 (by decide) (by decide) (by decide) _)).mono ?_
 rintro _ w32 ⟨hi14, lo14, rfl, ra14, rb14, eq14, le14, k32⟩
 refine ⟨k32, (fun x hx => by have hx : x ∈ ([] : List Nat) := hx; cases hx), ?_⟩
 replace hb1 := hb1.keep0 k32
 replace hb2 := hb2.keep0 k32
 replace hb3 := hb3.keep0 k32
 replace hB := hB.trans k32
 refine pa_d [(92, _), (94, _), (95, _)] rfl rfl ⟨rfl, rfl, rfl, trivial⟩ rfl (fun w35 k35 => ?_)
 replace hb1 := hb1.keep0 k35
 replace hb2 := hb2.keep0 k35
 replace hb3 := hb3.keep0 k35
 replace hB := hB.trans k35
 refine (d_call (vs := [_, _, _]) rfl (plus_any hi14 lo14 (f 4) z6 446213011280336551168455923990550 385365782469381566918211934355475 831578793749718118086667858346025 45079976738815 (In.wk ra14 rfl) rb14 (In.wk f4 rfl) (In.wk r3 rfl) le14 (in_mul f4 r3 (by decide) (by decide)).2 (by decide) (by decide) (by decide) _)).mono ?_
 rintro _ w34 ⟨hi15, lo15, rfl, ra15, rb15, eq15, le15, k34⟩
 refine ⟨k34, (fun x hx => by have hx : x ∈ ([] : List Nat) := hx; cases hx), ?_⟩
 replace hb1 := hb1.keep0 k34
 replace hb2 := hb2.keep0 k34
 replace hb3 := hb3.keep0 k34
 replace hB := hB.trans k34
 refine pa_d [(97, _), (99, _), (101, _)] rfl rfl ⟨rfl, rfl, rfl, trivial⟩ rfl (fun w37 k37 => ?_)
 replace hb1 := hb1.keep0 k37
 replace hb2 := hb2.keep0 k37
 replace hb3 := hb3.keep0 k37
 replace hB := hB.trans k37
 refine (d_call (vs := [_, _, _]) rfl (plus_any 0 0 (f 0) (g 3) 0 20282409603651661416747996545025 20282409603651661416747996545025 1099511627775 (by decide) (by decide) (In.wk f0 rfl) (In.wk g3 rfl) (by decide) (in_mul f0 g3 (by decide) (by decide)).2 (by decide) (by decide) (by decide) _)).mono ?_
 rintro _ w36 ⟨hi16, lo16, rfl, ra16, rb16, eq16, le16, k36⟩
 refine ⟨k36, (fun x hx => by have hx : x ∈ ([] : List Nat) := hx; cases hx), ?_⟩
 replace hb1 := hb1.keep0 k36
 replace hb2 := hb2.keep0 k36
 replace hb3 := hb3.keep0 k36
 replace hB := hB.trans k36
 refine pa_d [(102, _), (104, _), (106, _)] rfl rfl ⟨rfl, rfl, rfl, trivial⟩ rfl (fun w39 k39 => ?_)
 replace hb1 := hb1.keep0 k39
 replace hb2 := hb2.keep0 k39
 replace hb3 := hb3.keep0 k39
 replace hB := hB.trans k39
 refine (d_call (vs := [_, _, _]) rfl (plus_any hi16 lo16 (f 1) (g 2) 20282409603651661416747996545025 20282409603651661416747996545025 40564819207303322833495993090050 2199023255551 (In.wk ra16 rfl) rb16 (In.wk f1 rfl) (In.wk g2 rfl) le16 (in_mul f1 g2 (by decide) (by decide)).2 (by decide) (by decide) (by decide) _)).mono ?_
 rintro _ w38 ⟨hi17, lo17, rfl, ra17, rb17, eq17, le17, k38⟩
 refine ⟨k38, (fun x hx => by have hx : x ∈ ([] : List Nat) := hx; cases hx), ?_⟩
 replace hb1 := hb1.keep0 k38
 replace hb2 := hb2.keep0 k38
 replace hb3 := hb3.keep0 k38
 replace hB := hB.trans k38
 refine pa_d [(107, _), (109, _), (111, _)] rfl rfl ⟨rfl, rfl, rfl, trivial⟩ rfl (fun w41 k41 => ?_)
 replace hb1 := hb1.keep0 k41
 replace hb2 := hb2.keep0 k41
 replace hb3 := hb3.keep0 k41
 replace hB := hB.trans k41
 refine (d_call (vs := [_, _, _]) rfl (plus_any hi17 lo17 (f 2) (g 1) 40564819207303322833495993090050 20282409603651661416747996545025 60847228810954984250243989635075 3298534883327 (In.wk ra17 rfl) rb17 (In.wk f2 rfl) (In.wk g1 rfl) le17 (in_mul f2 g1 (by decide) (by decide)).2 (by decide) (by decide) (by decide) _)).mono ?_
 rintro _ w40 ⟨hi18, lo18, rfl, ra18, rb18, eq18, le18, k40⟩
 refine ⟨k40, (fun x hx => by have hx : x ∈ ([] : List Nat) := hx; cases hx), ?_⟩
 replace hb1 := hb1.keep0 k40
 replace hb2 := hb2.keep0 k40
 replace hb3 := hb3.keep0 k40
 replace hB := hB.trans k40
 refine pa_d [(112, _), (114, _), (116, _)] rfl rfl ⟨rfl, rfl, rfl, trivial⟩ rfl (fun w43 k43 => ?_)
 replace hb1 := hb1.keep0 k43
 replace hb2 := hb2.keep0 k43
 replace hb3 := hb3.keep0 k43
 replace hB := hB.trans k43
 refine (d_call (vs := [_, _, _]) rfl (plus_any hi18 lo18 (f 3) (g 0) 60847228810954984250243989635075 20282409603651661416747996545025 81129638414606645666991986180100 4398046511103 (In.wk ra18 rfl) rb18 (In.wk f3 rfl) (In.wk g0 rfl) le18 (in_mul f3 g0 (by decide) (by decide)).2 (by decide) (by decide) (by decide) _)).mono ?_
 rintro _ w42 ⟨hi19, lo19, rfl, ra19, rb19, eq19, le19, k42⟩
 refine ⟨k42, (fun x hx => by have hx : x ∈ ([] : List Nat) := hx; cases hx), ?_⟩
 replace hb1 := hb1.keep0 k42
 replace hb2 := hb2.keep0 k42
 replace hb3 := hb3.keep0 k42
 replace hB := hB.trans k42
 refine pa_d [(117, _), (119, _), (120, _)] rfl rfl ⟨rfl, rfl, rfl, trivial⟩ rfl (fun w45 k45 => ?_)
 replace hb1 := hb1.keep0 k45
 replace hb2 := hb2.keep0 k45
 replace hb3 := hb3.keep0 k45
 replace hB := hB.trans k45
 refine (d_call (vs := [_, _, _]) rfl (plus_any hi19 lo19 (f 4) z7 81129638414606645666991986180100 385365782469381566918211934355475 466495420883988212585203920535575 25288767438847 (In.wk ra19 rfl) rb19 (In.wk f4 rfl) (In.wk r4 rfl) le19 (in_mul f4 r4 (by decide) (by decide)).2 (by decide) (by decide) (by decide) _)).mono ?_
 rintro _ w44 ⟨hi20, lo20, rfl, ra20, rb20, eq20, le20, k44⟩
 refine ⟨k44, (fun x hx => by have hx : x ∈ ([] : List Nat) := hx; cases hx), ?_⟩
 replace hb1 := hb1.keep0 k44
 replace hb2 := hb2.keep0 k44
 replace hb3 := hb3.keep0 k44
 replace hB := hB.trans k44
 refine pa_d [(122, _), (124, _), (126, _)] rfl rfl ⟨rfl, rfl, rfl, trivial⟩ rfl (fun w47 k47 => ?_)
 replace hb1 := hb1.keep0 k47
 replace hb2 := hb2.keep0 k47
 replace hb3 := hb3.keep0 k47
 replace hB := hB.trans k47
 refine (d_call (vs := [_, _, _]) rfl (plus_any 0 0 (f 0) (g 4) 0 20282409603651661416747996545025 20282409603651661416747996545025 1099511627775 (by decide) (by decide) (In.wk f0 rfl) (In.wk g4 rfl) (by decide) (in_mul f0 g4 (by decide) (by decide)).2 (by decide) (by decide) (by decide) _)).mono ?_
 rintro _ w46 ⟨hi21, lo21, rfl, ra21, rb21, eq21, le21, k46⟩
 refine ⟨k46, (fun x hx => by have hx : x ∈ ([] : List Nat) := hx; cases hx), ?_⟩
 replace hb1 := hb1.keep0 k46
 replace hb2 := hb2.keep0 k46
 replace hb3 := hb3.keep0 k46
 replace hB := hB.trans k46
 refine pa_d [(127, _), (129, _), (131, _)] rfl rfl ⟨rfl, rfl, rfl, trivial⟩ rfl (fun w49 k49 => ?_)
 replace hb1 := hb1.keep0 k49
 replace hb2 := hb2.keep0 k49
 replace hb3 := hb3.keep0 k49
 replace hB := hB.trans k49
 refine (d_call (vs := [_, _, _]) rfl (plus_any hi21 lo21 (f 1) (g 3) 20282409603651661416747996545025 20282409603651661416747996545025 40564819207303322833495993090050 2199023255551 (In.wk ra21 rfl) rb21 (In.wk f1 rfl) (In.wk g3 rfl) le21 (in_mul f1 g3 (by decide) (by decide)).2 (by decide) (by decide) (by decide) _)).mono ?_
 rintro _ w48 ⟨hi22, lo22, rfl, ra22, rb22, eq22, le22, k48⟩
 refine ⟨k48, (fun x hx => by have hx : x ∈ ([] : List Nat) := hx; cases hx), ?_⟩
 replace hb1 := hb1.keep0 k48
 replace hb2 := hb2.keep0 k48
 replace hb3 := hb3.keep0 k48
 replace hB := hB.trans k48
 refine pa_d [(132, _), (134, _), (136, _)] rfl rfl ⟨rfl, rfl, rfl, trivial⟩ rfl (fun w51 k51 => ?_)
 replace hb1 := hb1.keep0 k51
 replace hb2 := hb2.keep0 k51
 replace hb3 := hb3.keep0 k51
 replace hB := hB.trans k51
 refine (d_call (vs := [_, _, _]) rfl (plus_any hi22 lo22 (f 2) (g 2) 40564819207303322833495993090050 20282409603651661416747996545025 60847228810954984250243989635075 3298534883327 (In.wk ra22 rfl) rb22 (In.wk f2 rfl) (In.wk g2 rfl) le22 (in_mul f2 g2 (by decide) (by decide)).2 (by decide) (by decide) (by decide) _)).mono ?_
 rintro _ w50 ⟨hi23, lo23, rfl, ra23, rb23, eq23, le23, k50⟩
 refine ⟨k50, (fun x hx => by have hx : x ∈ ([] : List Nat) := hx; cases hx), ?_⟩
 replace hb1 := hb1.keep0 k50
 replace hb2 := hb2.keep0 k50
 replace hb3 := hb3.keep0 k50
 replace hB := hB.trans k50
 refine pa_d [(137, _), (139, _), (141, _)] rfl rfl ⟨rfl, rfl, rfl, trivial⟩ rfl (fun w53 k53 => ?_)
 replace hb1 := hb1.keep0 k53
 replace hb2 := hb2.keep0 k53
 replace hb3 := hb3.keep0 k53
 replace hB := hB.trans k53
 refine (d_call (vs := [_, _, _]) rfl (plus_any hi23 lo23 (f 3) (g 1) 60847228810954984250243989635075 20282409603651661416747996545025 81129638414606645666991986180100 4398046511103 (In.wk ra23 rfl) rb23 (In.wk f3 rfl) (In.wk g1 rfl) le23 (in_mul f3 g1 (by decide) (by decide)).2 (by decide) (by decide) (by decide) _)).mono ?_
 rintro _ w52 ⟨hi24, lo24, rfl, ra24, rb24, eq24, le24, k52⟩
 refine ⟨k52, (fun x hx => by have hx : x ∈ ([] : List Nat) := hx; cases hx), ?_⟩
 replace hb1 := hb1.keep0 k52
 replace hb2 := hb2.keep0 k52
 replace hb3 := hb3.keep0 k52
 replace hB := hB.trans k52
 refine pa_d [(142, _), (144, _), (146, _)] rfl rfl ⟨rfl, rfl, rfl, trivial⟩ rfl (fun w55 k55 => ?_)
 replace hb1 := hb1.keep0 k55
 replace hb2 := hb2.keep0 k55
 replace hb3 := hb3.keep0 k55
 replace hB := hB.trans k55
 refine (d_call (vs := [_, _, _]) rfl (plus_any hi24 lo24 (f 4) (g 0) 81129638414606645666991986180100 20282409603651661416747996545025 101412048018258307083739982725125 5497558138879 (In.wk ra24 rfl) rb24 (In.wk f4 rfl) (In.wk g0 rfl) le24 (in_mul f4 g0 (by decide) (by decide)).2 (by decide) (by decide) (by decide) _)).mono ?_
 rintro _ w54 ⟨hi25, lo25, rfl, ra25, rb25, eq25, le25, k54⟩
 refine ⟨k54, (fun x hx => by have hx : x ∈ ([] : List Nat) := hx; cases hx), ?_⟩
 replace hb1 := hb1.keep0 k54
 replace hb2 := hb2.keep0 k54
 replace hb3 := hb3.keep0 k54
 replace hB := hB.trans k54
 refine pa_g [(49, _), (72, _), (96, _), (121, _), (147, _)] rfl rfl ⟨rfl, rfl, rfl, rfl, rfl, trivial⟩ rfl (fun W' kk => g_blda (idx := [0, 1, 2, 3, 4]) (xs := [.tmp 49, .tmp 72, .tmp 96, .tmp 121, .tmp 147]) (vs := [_, _, _, _, _]) (css := [[.int .u64 hi5, .int .u64 lo5], [.int .u64 hi10, .int .u64 lo10], [.int .u64 hi15, .int .u64 lo15], [.int .u64 hi20, .int .u64 lo20], [.int .u64 hi25, .int .u64 lo25]]) (out := [.int .u64 hi5, .int .u64 lo5, .int .u64 hi10, .int .u64 lo10, .int .u64 hi15, .int .u64 lo15, .int .u64 hi20, .int .u64 lo20, .int .u64 hi25, .int .u64 lo25]) Try.underlying108 ty106 ty108 (arr_pls 5 2) rfl rfl ⟨rfl, rfl, rfl, rfl, rfl, trivial⟩ rfl rfl) ?_
 refine pa_nil (fun w56 k56 => ?_)
 replace hb1 := hb1.keep0 k56
 replace hb2 := hb2.keep0 k56
 replace hb3 := hb3.keep0 k56
 replace hB := hB.trans k56
 intro b4 eb4 lb1 hb4 ds1 sp1
 have ge_b4 : w.heap.size ≤ b4 := Nat.le_trans gs1 eb4
 have ne_b1_b4 : b1 ≠ b4 := Nat.ne_of_lt (Nat.lt_of_lt_of_le lt1 eb4)
 have ne_b2_b4 : b2 ≠ b4 := Nat.ne_of_lt (Nat.lt_of_lt_of_le lt2 eb4)
 have ne_b3_b4 : b3 ≠ b4 := Nat.ne_of_lt (Nat.lt_of_lt_of_le lt3 eb4)
 refine fina_nil ?_
 refine ow_d0 (d_sta ty108 rfl rfl rfl (by simp only [List.forall_mem_cons]; refine ⟨rfl, rfl, rfl, rfl, rfl, rfl, rfl, rfl, rfl, rfl, fun v hv => by cases hv⟩) hb4 rfl) ?_
 rintro _ w57 ⟨hb5, k57, z8⟩
 replace hb1 := hb1.keep k57 (fun hm => absurd (List.mem_singleton.1 hm) ne_b1_b4)
 replace hb2 := hb2.keep k57 (fun hm => absurd (List.mem_singleton.1 hm) ne_b2_b4)
 replace hb3 := hb3.keep k57 (fun hm => absurd (List.mem_singleton.1 hm) ne_b3_b4)
 replace hB := hB.new k57 (fun x hx => .inl ((List.mem_singleton.1 hx) ▸ ge_b4))
 clear z8
 replace hb5 : Bk w57 b4 _ [.int .u64 hi5, .int .u64 lo5, .int .u64 hi10, .int .u64 lo10, .int .u64 hi15, .int .u64 lo15, .int .u64 hi20, .int .u64 lo20, .int .u64 hi25, .int .u64 lo25] := hb5
 refine ow_nil (tw_keep [(4, _), (9, _)] ⟨rfl, rfl, trivial⟩ ?_)
 refine tw_seq (tw_region (ow_d (d_alloc ty26) rfl ?_))
 rintro _ w58 ⟨b5, rfl, eb5, hb6, k58, z9⟩
 have ge_b5 : w.heap.size ≤ b5 := by have := hB.size; omega
 have ne_b3_b5 : b3 ≠ b5 := by have := hb3.lt; omega
 have ne_b4_b5 : b4 ≠ b5 := by have := hb5.lt; omega
 replace hb3 := hb3.keep0 k58
 replace hb5 := hb5.keep0 k58
 replace hB := hB.trans k58
 clear eb5 z9
 refine ow_nil (tw_seq (tw_region (ow_g (g_as rfl) rfl (ow_nil (tw_seq (tw_seq ?_))))))
 refine tw_region (ow_g (g_ldab (cs' := [_, _, _, _, _, _, _, _, _, _]) ag108 ty108 rfl hb5 rfl rfl) rfl ?_)
 refine ow_g (g_mv rfl) rfl (ow_nil (tw_block (tw_unroll 5 ?_)))
 refine tw_seq (tw_region (ow_g (g_lt rfl rfl) rfl ?_))
 refine ow_nil (tw_seq (tw_ifT rfl (by decide) ?_))
 refine tw_skip (tw_seq (tw_block (tw_seq (tw_region (ow_g (g_mv rfl) rfl (ow_g (g_ixva (cs' := [_, _]) Try.underlying108 ty106 ag106 rfl rfl (by decide) rfl) rfl ?_))))))
 refine ow_d (d_alloc ty106) rfl ?_
 rintro _ w59 ⟨b6, rfl, eb6, hb7, k59, z10⟩
 have ge_b6 : w.heap.size ≤ b6 := by have := hB.size; omega
 have ne_b3_b6 : b3 ≠ b6 := by have := hb3.lt; omega
 have ne_b5_b6 : b5 ≠ b6 := by have := hb6.lt; omega
 replace hb3 := hb3.keep0 k59
 replace hb6 := hb6.keep0 k59
 replace hB := hB.trans k59
 clear eb6 z10
 refine ow_g (g_as rfl) rfl (ow_d0 (d_sta ty106 rfl rfl rfl (by simp only [List.forall_mem_cons]; refine ⟨rfl, rfl, fun v hv => by cases hv⟩) hb7 rfl) ?_)
 rintro _ w60 ⟨hb8, k60, z11⟩
 replace hb3 := hb3.keep k60 (fun hm => absurd (List.mem_singleton.1 hm) ne_b3_b6)
 replace hb6 := hb6.keep k60 (fun hm => absurd (List.mem_singleton.1 hm) ne_b5_b6)
 replace hB := hB.new k60 (fun x hx => .inl ((List.mem_singleton.1 hx) ▸ ge_b6))
 clear z11
 replace hb8 : Bk w60 b6 _ [.int .u64 hi5, .int .u64 lo5] := hb8
 refine ow_nil (tw_seq (tw_region (ow_g (g_fa Try.underlying106 rfl ty24 (by decide) rfl) rfl ?_)))
 refine ow_g (g_ldb sc24 rfl hb8 rfl) rfl ?_
 refine ow_g (g_mv rfl) rfl (ow_g (g_callv (vs := [_, _, _]) rfl (add64_run _ _ _ (In.wk rb5 rfl) (In.wk (in_c 0) rfl) (In.wk (in_c 0) rfl))) rfl ?_)
 refine ow_g (g_mv rfl) rfl (ow_gx (e' := ((lo5 + 0 + 0) % 18446744073709551616)) (lo := 0) (hi := 18446744073709551615) (g_ext (vs := [_, _]) rfl rfl) (rfl) (In.wk (in_mod _ (by decide)) rfl) rfl (fun z12 h5 r5 => ?_))
 refine ow_gx (e' := ((lo5 + 0 + 0) / 18446744073709551616)) (lo := 0) (hi := 0) (g_ext (vs := [_, _]) rfl rfl) (rfl) (In.wk (in_div (in_add (in_add rb5 (in_c 0)) (in_c 0)) (by decide)) rfl) rfl (fun z13 h6 r6 => ?_)
 refine ow_g (g_as rfl) rfl (ow_g (g_as rfl) rfl (ow_nil (tw_keep [(4, _), (10, _), (149, _), (150, _), (13, _), (12, _), (14, _), (15, _)] ⟨rfl, rfl, rfl, rfl, rfl, rfl, rfl, rfl, trivial⟩ ?_)))
 refine tw_seq (tw_region (ow_g (g_mv rfl) rfl (ow_g (g_mv rfl) rfl (ow_gx (e' := z12 % 2251799813685248) (lo := 0) (hi := 2251799813685247) (g_and rfl rfl) (and_mod 51 r5 rfl rfl rfl rfl rfl rfl) (In.wk (in_mod _ (by decide)) rfl) rfl (fun z14 h7 r7 => ?_)))))
 refine ow_g (g_ixa Try.underlying26 ty24 rfl rfl (by decide)) rfl ?_
 refine ow_d0 (d_st ty24 rfl rfl rfl hb6 rfl) ?_
 rintro _ w61 ⟨hb9, k61, z15⟩
 replace hb3 := hb3.keep k61 (fun hm => absurd (List.mem_singleton.1 hm) ne_b3_b5)
 replace hb8 := hb8.keep k61 (fun hm => absurd (List.mem_singleton.1 hm) (Ne.symm ne_b5_b6))
 replace hB := hB.new k61 (fun x hx => .inl ((List.mem_singleton.1 hx) ▸ ge_b5))
 clear z15
 replace hb9 : Bk w61 b5 _ [.int .u64 z14, .int .u64 0, .int .u64 0, .int .u64 0, .int .u64 0] := hb9
 refine ow_nil (tw_region (ow_g (g_fa Try.underlying106 rfl ty24 (by decide) rfl) rfl ?_))
 refine ow_g (g_ldb sc24 rfl hb8 rfl) rfl ?_
 refine ow_g (g_mv rfl) rfl (ow_gx (e' := hi5 + z13) (lo := 0) (hi := 84662395338751) (g_addw rfl rfl) (wrap_fit (in_add ra5 r6) rfl) (In.wk (in_add ra5 r6) rfl) rfl (fun z16 h8 r8 => ?_))
 refine ow_gx (e' := z16 * 8192) (lo := 0) (hi := 693554342615048192) (g_shlp (m := 8192) rfl rfl (by decide) rfl) (wrap_fit (in_mulc r8 (by decide)) rfl) (In.wk (in_mulc r8 (by decide)) rfl) rfl (fun z17 h9 r9 => ?_)
 refine ow_g (g_mv rfl) rfl (ow_gx (e' := z12 / 2251799813685248) (lo := 0) (hi := 8191) (g_shrp (m := 2251799813685248) rfl rfl (by decide) rfl) (rfl) (In.wk (in_div r5 (by decide)) rfl) rfl (fun z18 h10 r10 => ?_))
 refine ow_gx (e' := z17 + z18) (lo := 0) (hi := 693554342615056383) (g_or rfl rfl) (or_join 13 (m := 8192) r9 rfl r10 rfl rfl rfl rfl (eq_mod h9 (Int.mul_emod_left _ _)) rfl rfl) (In.wk (in_add r9 r10) rfl) rfl (fun z19 h11 r11 => ?_)
 refine ow_g (g_as rfl) rfl (ow_nil (tw_keep [(4, _), (10, _), (149, _), (150, _), (11, _)] ⟨rfl, rfl, rfl, rfl, rfl, trivial⟩ ?_))
 refine tw_b (tw_region (ow_g (g_fold (j := 1) (g_addw rfl rfl) (by decide)) rfl ?_))
 refine ow_g (g_mv rfl) rfl (ow_nil (tw_lp (tw_seq (tw_region (ow_g (g_lt rfl rfl) rfl ?_)))))
 refine ow_nil (tw_seq (tw_ifT rfl (by decide) ?_))
 refine tw_skip (tw_seq (tw_block (tw_seq (tw_region (ow_g (g_mv rfl) rfl (ow_g (g_ixva (cs' := [_, _]) Try.underlying108 ty106 ag106 rfl rfl (by decide) rfl) rfl ?_))))))
 refine ow_d (d_alloc ty106) rfl ?_
 rintro _ w62 ⟨b7, rfl, eb7, hb10, k62, z20⟩
 have ge_b7 : w.heap.size ≤ b7 := by have := hB.size; omega
 have ne_b3_b7 : b3 ≠ b7 := by have := hb3.lt; omega
 have ne_b5_b7 : b5 ≠ b7 := by have := hb9.lt; omega
 replace hb3 := hb3.keep0 k62
 replace hb9 := hb9.keep0 k62
 replace hB := hB.trans k62
 clear eb7 z20
 refine ow_g (g_as rfl) rfl (ow_d0 (d_sta ty106 rfl rfl rfl (by simp only [List.forall_mem_cons]; refine ⟨rfl, rfl, fun v hv => by cases hv⟩) hb10 rfl) ?_)
 rintro _ w63 ⟨hb11, k63, z21⟩
 replace hb3 := hb3.keep k63 (fun hm => absurd (List.mem_singleton.1 hm) ne_b3_b7)
 replace hb9 := hb9.keep k63 (fun hm => absurd (List.mem_singleton.1 hm) ne_b5_b7)
 replace hB := hB.new k63 (fun x hx => .inl ((List.mem_singleton.1 hx) ▸ ge_b7))
 clear z21
 replace hb11 : Bk w63 b7 _ [.int .u64 hi10, .int .u64 lo10] := hb11
 refine ow_nil (tw_seq (tw_region (ow_g (g_fa Try.underlying106 rfl ty24 (by decide) rfl) rfl ?_)))
 refine ow_g (g_ldb sc24 rfl hb11 rfl) rfl ?_
 refine ow_g (g_mv rfl) rfl (ow_g (g_callv (vs := [_, _, _]) rfl (add64_run _ _ _ (In.wk rb10 rfl) (In.wk r11 rfl) (In.wk (in_c 0) rfl))) rfl ?_)
 refine ow_g (g_mv rfl) rfl (ow_gx (e' := ((lo10 + z19 + 0) % 18446744073709551616)) (lo := 0) (hi := 18446744073709551615) (g_ext (vs := [_, _]) rfl rfl) (rfl) (In.wk (in_mod _ (by decide)) rfl) rfl (fun z22 h12 r12 => ?_))
 refine ow_gx (e' := ((lo10 + z19 + 0) / 18446744073709551616)) (lo := 0) (hi := 1) (g_ext (vs := [_, _]) rfl rfl) (rfl) (In.wk (in_div (in_add (in_add rb10 r11) (in_c 0)) (by decide)) rfl) rfl (fun z23 h13 r13 => ?_)
 refine ow_g (g_as rfl) rfl (ow_g (g_as rfl) rfl (ow_nil (tw_keep [(4, _), (10, _), (149, _), (150, _), (13, _), (12, _), (14, _), (15, _)] ⟨rfl, rfl, rfl, rfl, rfl, rfl, rfl, rfl, trivial⟩ ?_)))
 refine tw_seq (tw_region (ow_g (g_mv rfl) rfl (ow_g (g_mv rfl) rfl (ow_gx (e' := z22 % 2251799813685248) (lo := 0) (hi := 2251799813685247) (g_and rfl rfl) (and_mod 51 r12 rfl rfl rfl rfl rfl rfl) (In.wk (in_mod _ (by decide)) rfl) rfl (fun z24 h14 r14 => ?_)))))
 refine ow_g (g_ixa Try.underlying26 ty24 rfl rfl (by decide)) rfl ?_
 refine ow_d0 (d_st ty24 rfl rfl rfl hb9 rfl) ?_
 rintro _ w64 ⟨hb12, k64, z25⟩
 replace hb3 := hb3.keep k64 (fun hm => absurd (List.mem_singleton.1 hm) ne_b3_b5)
 replace hb11 := hb11.keep k64 (fun hm => absurd (List.mem_singleton.1 hm) (Ne.symm ne_b5_b7))
 replace hB := hB.new k64 (fun x hx => .inl ((List.mem_singleton.1 hx) ▸ ge_b5))
 clear z25
 replace hb12 : Bk w64 b5 _ [.int .u64 z14, .int .u64 z24, .int .u64 0, .int .u64 0, .int .u64 0] := hb12
 refine ow_nil (tw_region (ow_g (g_fa Try.underlying106 rfl ty24 (by decide) rfl) rfl ?_))
 refine ow_g (g_ldb sc24 rfl hb11 rfl) rfl ?_
 refine ow_g (g_mv rfl) rfl (ow_gx (e' := hi10 + z23) (lo := 0) (hi := 64871186038784) (g_addw rfl rfl) (wrap_fit (in_add ra10 r13) rfl) (In.wk (in_add ra10 r13) rfl) rfl (fun z26 h15 r15 => ?_))
 refine ow_gx (e' := z26 * 8192) (lo := 0) (hi := 531424756029718528) (g_shlp (m := 8192) rfl rfl (by decide) rfl) (wrap_fit (in_mulc r15 (by decide)) rfl) (In.wk (in_mulc r15 (by decide)) rfl) rfl (fun z27 h16 r16 => ?_)
 refine ow_g (g_mv rfl) rfl (ow_gx (e' := z22 / 2251799813685248) (lo := 0) (hi := 8191) (g_shrp (m := 2251799813685248) rfl rfl (by decide) rfl) (rfl) (In.wk (in_div r12 (by decide)) rfl) rfl (fun z28 h17 r17 => ?_))
 refine ow_gx (e' := z27 + z28) (lo := 0) (hi := 531424756029726719) (g_or rfl rfl) (or_join 13 (m := 8192) r16 rfl r17 rfl rfl rfl rfl (eq_mod h16 (Int.mul_emod_left _ _)) rfl rfl) (In.wk (in_add r16 r17) rfl) rfl (fun z29 h18 r18 => ?_)
 refine ow_g (g_as rfl) rfl (ow_nil (tw_keep [(4, _), (10, _), (149, _), (150, _), (11, _)] ⟨rfl, rfl, rfl, rfl, rfl, trivial⟩ ?_))
 refine tw_b (tw_region (ow_g (g_fold (j := 2) (g_addw rfl rfl) (by decide)) rfl ?_))
 refine ow_g (g_mv rfl) rfl (ow_nil (tw_lp (tw_seq (tw_region (ow_g (g_lt rfl rfl) rfl ?_)))))
 refine ow_nil (tw_seq (tw_ifT rfl (by decide) ?_))
 refine tw_skip (tw_seq (tw_block (tw_seq (tw_region (ow_g (g_mv rfl) rfl (ow_g (g_ixva (cs' := [_, _]) Try.underlying108 ty106 ag106 rfl rfl (by decide) rfl) rfl ?_))))))
 refine ow_d (d_alloc ty106) rfl ?_
 rintro _ w65 ⟨b8, rfl, eb8, hb13, k65, z30⟩
 have ge_b8 : w.heap.size ≤ b8 := by have := hB.size; omega
 have ne_b3_b8 : b3 ≠ b8 := by have := hb3.lt; omega
 have ne_b5_b8 : b5 ≠ b8 := by have := hb12.lt; omega
 replace hb3 := hb3.keep0 k65
 replace hb12 := hb12.keep0 k65
 replace hB := hB.trans k65
 clear eb8 z30
 refine ow_g (g_as rfl) rfl (ow_d0 (d_sta ty106 rfl rfl rfl (by simp only [List.forall_mem_cons]; refine ⟨rfl, rfl, fun v hv => by cases hv⟩) hb13 rfl) ?_)
 rintro _ w66 ⟨hb14, k66, z31⟩
 replace hb3 := hb3.keep k66 (fun hm => absurd (List.mem_singleton.1 hm) ne_b3_b8)
 replace hb12 := hb12.keep k66 (fun hm => absurd (List.mem_singleton.1 hm) ne_b5_b8)
 replace hB := hB.new k66 (fun x hx => .inl ((List.mem_singleton.1 hx) ▸ ge_b8))
 clear z31
 replace hb14 : Bk w66 b8 _ [.int .u64 hi15, .int .u64 lo15] := hb14
 refine ow_nil (tw_seq (tw_region (ow_g (g_fa Try.underlying106 rfl ty24 (by decide) rfl) rfl ?_)))
 refine ow_g (g_ldb sc24 rfl hb14 rfl) rfl ?_
 refine ow_g (g_mv rfl) rfl (ow_g (g_callv (vs := [_, _, _]) rfl (add64_run _ _ _ (In.wk rb15 rfl) (In.wk r18 rfl) (In.wk (in_c 0) rfl))) rfl ?_)
 refine ow_g (g_mv rfl) rfl (ow_gx (e' := ((lo15 + z29 + 0) % 18446744073709551616)) (lo := 0) (hi := 18446744073709551615) (g_ext (vs := [_, _]) rfl rfl) (rfl) (In.wk (in_mod _ (by decide)) rfl) rfl (fun z32 h19 r19 => ?_))
 refine ow_gx (e' := ((lo15 + z29 + 0) / 18446744073709551616)) (lo := 0) (hi := 1) (g_ext (vs := [_, _]) rfl rfl) (rfl) (In.wk (in_div (in_add (in_add rb15 r18) (in_c 0)) (by decide)) rfl) rfl (fun z33 h20 r20 => ?_)
 refine ow_g (g_as rfl) rfl (ow_g (g_as rfl) rfl (ow_nil (tw_keep [(4, _), (10, _), (149, _), (150, _), (13, _), (12, _), (14, _), (15, _)] ⟨rfl, rfl, rfl, rfl, rfl, rfl, rfl, rfl, trivial⟩ ?_)))
 refine tw_seq (tw_region (ow_g (g_mv rfl) rfl (ow_g (g_mv rfl) rfl (ow_gx (e' := z32 % 2251799813685248) (lo := 0) (hi := 2251799813685247) (g_and rfl rfl) (and_mod 51 r19 rfl rfl rfl rfl rfl rfl) (In.wk (in_mod _ (by decide)) rfl) rfl (fun z34 h21 r21 => ?_)))))
 refine ow_g (g_ixa Try.underlying26 ty24 rfl rfl (by decide)) rfl ?_
 refine ow_d0 (d_st ty24 rfl rfl rfl hb12 rfl) ?_
 rintro _ w67 ⟨hb15, k67, z35⟩
 replace hb3 := hb3.keep k67 (fun hm => absurd (List.mem_singleton.1 hm) ne_b3_b5)
 replace hb14 := hb14.keep k67 (fun hm => absurd (List.mem_singleton.1 hm) (Ne.symm ne_b5_b8))
 replace hB := hB.new k67 (fun x hx => .inl ((List.mem_singleton.1 hx) ▸ ge_b5))
 clear z35
 replace hb15 : Bk w67 b5 _ [.int .u64 z14, .int .u64 z24, .int .u64 z34, .int .u64 0, .int .u64 0] := hb15
 refine ow_nil (tw_region (ow_g (g_fa Try.underlying106 rfl ty24 (by decide) rfl) rfl ?_))
 refine ow_g (g_ldb sc24 rfl hb14 rfl) rfl ?_
 refine ow_g (g_mv rfl) rfl (ow_gx (e' := hi15 + z33) (lo := 0) (hi := 45079976738816) (g_addw rfl rfl) (wrap_fit (in_add ra15 r20) rfl) (In.wk (in_add ra15 r20) rfl) rfl (fun z36 h22 r22 => ?_))
 refine ow_gx (e' := z36 * 8192) (lo := 0) (hi := 369295169444380672) (g_shlp (m := 8192) rfl rfl (by decide) rfl) (wrap_fit (in_mulc r22 (by decide)) rfl) (In.wk (in_mulc r22 (by decide)) rfl) rfl (fun z37 h23 r23 => ?_)
 refine ow_g (g_mv rfl) rfl (ow_gx (e' := z32 / 2251799813685248) (lo := 0) (hi := 8191) (g_shrp (m := 2251799813685248) rfl rfl (by decide) rfl) (rfl) (In.wk (in_div r19 (by decide)) rfl) rfl (fun z38 h24 r24 => ?_))
 refine ow_gx (e' := z37 + z38) (lo := 0) (hi := 369295169444388863) (g_or rfl rfl) (or_join 13 (m := 8192) r23 rfl r24 rfl rfl rfl rfl (eq_mod h23 (Int.mul_emod_left _ _)) rfl rfl) (In.wk (in_add r23 r24) rfl) rfl (fun z39 h25 r25 => ?_)
 refine ow_g (g_as rfl) rfl (ow_nil (tw_keep [(4, _), (10, _), (149, _), (150, _), (11, _)] ⟨rfl, rfl, rfl, rfl, rfl, trivial⟩ ?_))
 refine tw_b (tw_region (ow_g (g_fold (j := 3) (g_addw rfl rfl) (by decide)) rfl ?_))
 refine ow_g (g_mv rfl) rfl (ow_nil (tw_lp (tw_seq (tw_region (ow_g (g_lt rfl rfl) rfl ?_)))))
 refine ow_nil (tw_seq (tw_ifT rfl (by decide) ?_))
 refine tw_skip (tw_seq (tw_block (tw_seq (tw_region (ow_g (g_mv rfl) rfl (ow_g (g_ixva (cs' := [_, _]) Try.underlying108 ty106 ag106 rfl rfl (by decide) rfl) rfl ?_))))))
 refine ow_d (d_alloc ty106) rfl ?_
 rintro _ w68 ⟨b9, rfl, eb9, hb16, k68, z40⟩
 have ge_b9 : w.heap.size ≤ b9 := by have := hB.size; omega
 have ne_b3_b9 : b3 ≠ b9 := by have := hb3.lt; omega
 have ne_b5_b9 : b5 ≠ b9 := by have := hb15.lt; omega
 replace hb3 := hb3.keep0 k68
 replace hb15 := hb15.keep0 k68
 replace hB := hB.trans k68
 clear eb9 z40
 refine ow_g (g_as rfl) rfl (ow_d0 (d_sta ty106 rfl rfl rfl (by simp only [List.forall_mem_cons]; refine ⟨rfl, rfl, fun v hv => by cases hv⟩) hb16 rfl) ?_)
 rintro _ w69 ⟨hb17, k69, z41⟩
 replace hb3 := hb3.keep k69 (fun hm => absurd (List.mem_singleton.1 hm) ne_b3_b9)
 replace hb15 := hb15.keep k69 (fun hm => absurd (List.mem_singleton.1 hm) ne_b5_b9)
 replace hB := hB.new k69 (fun x hx => .inl ((List.mem_singleton.1 hx) ▸ ge_b9))
 clear z41
 replace hb17 : Bk w69 b9 _ [.int .u64 hi20, .int .u64 lo20] := hb17
 refine ow_nil (tw_seq (tw_region (ow_g (g_fa Try.underlying106 rfl ty24 (by decide) rfl) rfl ?_)))
 refine ow_g (g_ldb sc24 rfl hb17 rfl) rfl ?_
 refine ow_g (g_mv rfl) rfl (ow_g (g_callv (vs := [_, _, _]) rfl (add64_run _ _ _ (In.wk rb20 rfl) (In.wk r25 rfl) (In.wk (in_c 0) rfl))) rfl ?_)
 refine ow_g (g_mv rfl) rfl (ow_gx (e' := ((lo20 + z39 + 0) % 18446744073709551616)) (lo := 0) (hi := 18446744073709551615) (g_ext (vs := [_, _]) rfl rfl) (rfl) (In.wk (in_mod _ (by decide)) rfl) rfl (fun z42 h26 r26 => ?_))
 refine ow_gx (e' := ((lo20 + z39 + 0) / 18446744073709551616)) (lo := 0) (hi := 1) (g_ext (vs := [_, _]) rfl rfl) (rfl) (In.wk (in_div (in_add (in_add rb20 r25) (in_c 0)) (by decide)) rfl) rfl (fun z43 h27 r27 => ?_)
 refine ow_g (g_as rfl) rfl (ow_g (g_as rfl) rfl (ow_nil (tw_keep [(4, _), (10, _), (149, _), (150, _), (13, _), (12, _), (14, _), (15, _)] ⟨rfl, rfl, rfl, rfl, rfl, rfl, rfl, rfl, trivial⟩ ?_)))
 refine tw_seq (tw_region (ow_g (g_mv rfl) rfl (ow_g (g_mv rfl) rfl (ow_gx (e' := z42 % 2251799813685248) (lo := 0) (hi := 2251799813685247) (g_and rfl rfl) (and_mod 51 r26 rfl rfl rfl rfl rfl rfl) (In.wk (in_mod _ (by decide)) rfl) rfl (fun z44 h28 r28 => ?_)))))
 refine ow_g (g_ixa Try.underlying26 ty24 rfl rfl (by decide)) rfl ?_
 refine ow_d0 (d_st ty24 rfl rfl rfl hb15 rfl) ?_
 rintro _ w70 ⟨hb18, k70, z45⟩
 replace hb3 := hb3.keep k70 (fun hm => absurd (List.mem_singleton.1 hm) ne_b3_b5)
 replace hb17 := hb17.keep k70 (fun hm => absurd (List.mem_singleton.1 hm) (Ne.symm ne_b5_b9))
 replace hB := hB.new k70 (fun x hx => .inl ((List.mem_singleton.1 hx) ▸ ge_b5))
 clear z45
 replace hb18 : Bk w70 b5 _ [.int .u64 z14, .int .u64 z24, .int .u64 z34, .int .u64 z44, .int .u64 0] := hb18
 refine ow_nil (tw_region (ow_g (g_fa Try.underlying106 rfl ty24 (by decide) rfl) rfl ?_))
 refine ow_g (g_ldb sc24 rfl hb17 rfl) rfl ?_
 refine ow_g (g_mv rfl) rfl (ow_gx (e' := hi20 + z43) (lo := 0) (hi := 25288767438848) (g_addw rfl rfl) (wrap_fit (in_add ra20 r27) rfl) (In.wk (in_add ra20 r27) rfl) rfl (fun z46 h29 r29 => ?_))
 refine ow_gx (e' := z46 * 8192) (lo := 0) (hi := 207165582859042816) (g_shlp (m := 8192) rfl rfl (by decide) rfl) (wrap_fit (in_mulc r29 (by decide)) rfl) (In.wk (in_mulc r29 (by decide)) rfl) rfl (fun z47 h30 r30 => ?_)
 refine ow_g (g_mv rfl) rfl (ow_gx (e' := z42 / 2251799813685248) (lo := 0) (hi := 8191) (g_shrp (m := 2251799813685248) rfl rfl (by decide) rfl) (rfl) (In.wk (in_div r26 (by decide)) rfl) rfl (fun z48 h31 r31 => ?_))
 refine ow_gx (e' := z47 + z48) (lo := 0) (hi := 207165582859051007) (g_or rfl rfl) (or_join 13 (m := 8192) r30 rfl r31 rfl rfl rfl rfl (eq_mod h30 (Int.mul_emod_left _ _)) rfl rfl) (In.wk (in_add r30 r31) rfl) rfl (fun z49 h32 r32 => ?_)
 refine ow_g (g_as rfl) rfl (ow_nil (tw_keep [(4, _), (10, _), (149, _), (150, _), (11, _)] ⟨rfl, rfl, rfl, rfl, rfl, trivial⟩ ?_))
 refine tw_b (tw_region (ow_g (g_fold (j := 4) (g_addw rfl rfl) (by decide)) rfl ?_))
 refine ow_g (g_mv rfl) rfl (ow_nil (tw_lp (tw_seq (tw_region (ow_g (g_lt rfl rfl) rfl ?_)))))
 refine ow_nil (tw_seq (tw_ifT rfl (by decide) ?_))
 refine tw_skip (tw_seq (tw_block (tw_seq (tw_region (ow_g (g_mv rfl) rfl (ow_g (g_ixva (cs' := [_, _]) Try.underlying108 ty106 ag106 rfl rfl (by decide) rfl) rfl ?_))))))
 refine ow_d (d_alloc ty106) rfl ?_
 rintro _ w71 ⟨b10, rfl, eb10, hb19, k71, z50⟩
 have ge_b10 : w.heap.size ≤ b10 := by have := hB.size; omega
 have ne_b3_b10 : b3 ≠ b10 := by have := hb3.lt; omega
 have ne_b5_b10 : b5 ≠ b10 := by have := hb18.lt; omega
 replace hb3 := hb3.keep0 k71
 replace hb18 := hb18.keep0 k71
 replace hB := hB.trans k71
 clear eb10 z50
 refine ow_g (g_as rfl) rfl (ow_d0 (d_sta ty106 rfl rfl rfl (by simp only [List.forall_mem_cons]; refine ⟨rfl, rfl, fun v hv => by cases hv⟩) hb19 rfl) ?_)
 rintro _ w72 ⟨hb20, k72, z51⟩
 replace hb3 := hb3.keep k72 (fun hm => absurd (List.mem_singleton.1 hm) ne_b3_b10)
 replace hb18 := hb18.keep k72 (fun hm => absurd (List.mem_singleton.1 hm) ne_b5_b10)
 replace hB := hB.new k72 (fun x hx => .inl ((List.mem_singleton.1 hx) ▸ ge_b10))
 clear z51
 replace hb20 : Bk w72 b10 _ [.int .u64 hi25, .int .u64 lo25] := hb20
 refine ow_nil (tw_seq (tw_region (ow_g (g_fa Try.underlying106 rfl ty24 (by decide) rfl) rfl ?_)))
 refine ow_g (g_ldb sc24 rfl hb20 rfl) rfl ?_
 refine ow_g (g_mv rfl) rfl (ow_g (g_callv (vs := [_, _, _]) rfl (add64_run _ _ _ (In.wk rb25 rfl) (In.wk r32 rfl) (In.wk (in_c 0) rfl))) rfl ?_)
 refine ow_g (g_mv rfl) rfl (ow_gx (e' := ((lo25 + z49 + 0) % 18446744073709551616)) (lo := 0) (hi := 18446744073709551615) (g_ext (vs := [_, _]) rfl rfl) (rfl) (In.wk (in_mod _ (by decide)) rfl) rfl (fun z52 h33 r33 => ?_))
 refine ow_gx (e' := ((lo25 + z49 + 0) / 18446744073709551616)) (lo := 0) (hi := 1) (g_ext (vs := [_, _]) rfl rfl) (rfl) (In.wk (in_div (in_add (in_add rb25 r32) (in_c 0)) (by decide)) rfl) rfl (fun z53 h34 r34 => ?_)
 refine ow_g (g_as rfl) rfl (ow_g (g_as rfl) rfl (ow_nil (tw_keep [(4, _), (10, _), (149, _), (150, _), (13, _), (12, _), (14, _), (15, _)] ⟨rfl, rfl, rfl, rfl, rfl, rfl, rfl, rfl, trivial⟩ ?_)))
 refine tw_seq (tw_region (ow_g (g_mv rfl) rfl (ow_g (g_mv rfl) rfl (ow_gx (e' := z52 % 2251799813685248) (lo := 0) (hi := 2251799813685247) (g_and rfl rfl) (and_mod 51 r33 rfl rfl rfl rfl rfl rfl) (In.wk (in_mod _ (by decide)) rfl) rfl (fun z54 h35 r35 => ?_)))))
 refine ow_g (g_ixa Try.underlying26 ty24 rfl rfl (by decide)) rfl ?_
 refine ow_d0 (d_st ty24 rfl rfl rfl hb18 rfl) ?_
 rintro _ w73 ⟨hb21, k73, z55⟩
 replace hb3 := hb3.keep k73 (fun hm => absurd (List.mem_singleton.1 hm) ne_b3_b5)
 replace hb20 := hb20.keep k73 (fun hm => absurd (List.mem_singleton.1 hm) (Ne.symm ne_b5_b10))
 replace hB := hB.new k73 (fun x hx => .inl ((List.mem_singleton.1 hx) ▸ ge_b5))
 clear z55
 replace hb21 : Bk w73 b5 _ [.int .u64 z14, .int .u64 z24, .int .u64 z34, .int .u64 z44, .int .u64 z54] := hb21
 refine ow_nil (tw_region (ow_g (g_fa Try.underlying106 rfl ty24 (by decide) rfl) rfl ?_))
 refine ow_g (g_ldb sc24 rfl hb20 rfl) rfl ?_
 refine ow_g (g_mv rfl) rfl (ow_gx (e' := hi25 + z53) (lo := 0) (hi := 5497558138880) (g_addw rfl rfl) (wrap_fit (in_add ra25 r34) rfl) (In.wk (in_add ra25 r34) rfl) rfl (fun z56 h36 r36 => ?_))
 refine ow_gx (e' := z56 * 8192) (lo := 0) (hi := 45035996273704960) (g_shlp (m := 8192) rfl rfl (by decide) rfl) (wrap_fit (in_mulc r36 (by decide)) rfl) (In.wk (in_mulc r36 (by decide)) rfl) rfl (fun z57 h37 r37 => ?_)
 refine ow_g (g_mv rfl) rfl (ow_gx (e' := z52 / 2251799813685248) (lo := 0) (hi := 8191) (g_shrp (m := 2251799813685248) rfl rfl (by decide) rfl) (rfl) (In.wk (in_div r33 (by decide)) rfl) rfl (fun z58 h38 r38 => ?_))
 refine ow_gx (e' := z57 + z58) (lo := 0) (hi := 45035996273713151) (g_or rfl rfl) (or_join 13 (m := 8192) r37 rfl r38 rfl rfl rfl rfl (eq_mod h37 (Int.mul_emod_left _ _)) rfl rfl) (In.wk (in_add r37 r38) rfl) rfl (fun z59 h39 r39 => ?_)
 refine ow_g (g_as rfl) rfl (ow_nil (tw_keep [(4, _), (10, _), (149, _), (150, _), (11, _)] ⟨rfl, rfl, rfl, rfl, rfl, trivial⟩ ?_))
 refine tw_b (tw_region (ow_g (g_fold (j := 5) (g_addw rfl rfl) (by decide)) rfl ?_))
 refine ow_g (g_mv rfl) rfl (ow_nil (tw_lp (tw_seq (tw_region (ow_g (g_lt rfl rfl) rfl ?_)))))
 refine ow_nil (tw_seq (tw_ifF rfl (by decide) ?_))
 refine tw_exit rfl ?_
 refine tw_seq (tw_region (ow_g (g_ixa Try.underlying26 ty24 rfl rfl (by decide)) rfl ?_))
 refine ow_g (g_ldb sc24 rfl hb21 rfl) rfl ?_
 refine ow_g (g_mv rfl) rfl (ow_gx (e' := 19 * z59) (lo := 0) (hi := 855683929200549869) (g_mulw rfl rfl) (wrap_fit (in_cmul r39 (by decide)) rfl) (In.wk (in_cmul r39 (by decide)) rfl) rfl (fun z60 h40 r40 => ?_))
 refine ow_gx (e' := z14 + z60) (lo := 0) (hi := 857935729014235116) (g_addw rfl rfl) (wrap_fit (in_add r7 r40) rfl) (In.wk (in_add r7 r40) rfl) rfl (fun z61 h41 r41 => ?_)
 refine ow_g (g_ixa Try.underlying26 ty24 rfl rfl (by decide)) rfl ?_
 refine ow_d0 (d_st ty24 rfl rfl rfl hb21 rfl) ?_
 rintro _ w74 ⟨hb22, k74, z62⟩
 replace hb3 := hb3.keep k74 (fun hm => absurd (List.mem_singleton.1 hm) ne_b3_b5)
 replace hB := hB.new k74 (fun x hx => .inl ((List.mem_singleton.1 hx) ▸ ge_b5))
 clear z62
 replace hb22 : Bk w74 b5 _ [.int .u64 z61, .int .u64 z24, .int .u64 z34, .int .u64 z44, .int .u64 z54] := hb22
 refine ow_nil (tw_keep [(4, _), (10, _)] ⟨rfl, rfl, trivial⟩ ?_)
 refine tw_seq (tw_region (ow_g (g_ldab (cs' := [_, _, _, _, _]) ag26 ty26 rfl hb22 rfl rfl) rfl ?_))
 refine ow_d (d_call (vs := [_]) rfl (carry_any (vecN [z61, z24, z34, z44, z54]) (In.wk r41 rfl) (In.wk r14 rfl) (In.wk r21 rfl) (In.wk r28 rfl) (In.wk r35 rfl) _)) rfl ?_
 rintro _ w75 ⟨hh1, c01, c11, c21, c31, c41, rfl, e01, e11, e21, e31, e41, g01, g11, g21, g31, g41, gv1, k75⟩
 replace hb3 := hb3.keep0 k75
 replace hb22 := hb22.keep0 k75
 replace hB := hB.trans k75
 replace e01 : c01 = z61 / 2251799813685248 := e01
 replace e11 : c11 = (z24 + c01) / 2251799813685248 := e11
 replace e21 : c21 = (z34 + c11) / 2251799813685248 := e21
 replace e31 : c31 = (z44 + c21) / 2251799813685248 := e31
 replace e41 : c41 = (z54 + c31) / 2251799813685248 := e41
 replace g01 : hh1 0 = z61 % 2251799813685248 + 19 * c41 := g01
 replace g11 : hh1 1 = (z24 + c01) % 2251799813685248 := g11
 replace g21 : hh1 2 = (z34 + c11) % 2251799813685248 := g21
 replace g31 : hh1 3 = (z44 + c21) % 2251799813685248 := g31
 replace g41 : hh1 4 = (z54 + c31) % 2251799813685248 := g41
 replace gv1 : val5 hh1 + c41 * 57896044618658097711785492504343953926634992332820282019728792003956564819949 = z61 + z24 * 2251799813685248 + z34 * 5070602400912917605986812821504 + z44 * 11417981541647679048466287755595961091061972992 + z54 * 25711008708143844408671393477458601640355247900524685364822016 := gv1
 obtain ⟨r42, r43, r44, r45, r46⟩ := carry_bounds (t := 2251799813685266) e01 e11 e21 e31 e41 g01 g11 g21 g31 g41 (In.wk r41 rfl : In _ 0 857935729014235116) (In.wk r14 rfl : In _ 0 2251799813685247) (In.wk r21 rfl : In _ 0 2251799813685247) (In.wk r28 rfl : In _ 0 2251799813685247) (In.wk r35 rfl : In _ 0 2251799813685247) rfl
 refine ow_d0 (d_sta ty26 rfl rfl rfl ivF_one hb3 rfl) ?_
 rintro _ w76 ⟨hb23, k76, z63⟩
 replace hb22 := hb22.keep k76 (fun hm => absurd (List.mem_singleton.1 hm) (Ne.symm ne_b3_b5))
 replace hB := hB.new k76 (fun x hx => .inl ((List.mem_singleton.1 hx) ▸ ge_b3))
 clear z63
 replace hb23 : Bk w76 b3 _ [.int .u64 (hh1 0), .int .u64 (hh1 1), .int .u64 (hh1 2), .int .u64 (hh1 3), .int .u64 (hh1 4)] := hb23
 refine ow_nil (tw_retc hfin Try.results70 rfl (run_loadAgg ag26 ty26 ‹_› rfl)  ?_)
 have t0 : hi5 * 18446744073709551616 + lo5 = f 0 * g 0 + 19 * (f 1 * g 4) + 19 * (f 2 * g 3) + 19 * (f 3 * g 2) + 19 * (f 4 * g 1) := by
  have a_eq1 : _ = _ := eq1
  have a_eq2 : _ = _ := eq2
  have a_eq3 : _ = _ := eq3
  have a_eq4 : _ = _ := eq4
  have a_eq5 : _ = _ := eq5
  have qz7 : (f 1) * z7 = 19 * ((f 1) * (g 4)) := by rw [show z7 = _ from h4]; exact Int.mul_left_comm _ _ _
  have qz6 : (f 2) * z6 = 19 * ((f 2) * (g 3)) := by rw [show z6 = _ from h3]; exact Int.mul_left_comm _ _ _
  have qz5 : (f 3) * z5 = 19 * ((f 3) * (g 2)) := by rw [show z5 = _ from h2]; exact Int.mul_left_comm _ _ _
  have qz4 : (f 4) * z4 = 19 * ((f 4) * (g 1)) := by rw [show z4 = _ from h1]; exact Int.mul_left_comm _ _ _
  omega
 have t1 : hi10 * 18446744073709551616 + lo10 = f 0 * g 1 + f 1 * g 0 + 19 * (f 2 * g 4) + 19 * (f 3 * g 3) + 19 * (f 4 * g 2) := by
  have a_eq6 : _ = _ := eq6
  have a_eq7 : _ = _ := eq7
  have a_eq8 : _ = _ := eq8
  have a_eq9 : _ = _ := eq9
  have a_eq10 : _ = _ := eq10
  have qz7 : (f 2) * z7 = 19 * ((f 2) * (g 4)) := by rw [show z7 = _ from h4]; exact Int.mul_left_comm _ _ _
  have qz6 : (f 3) * z6 = 19 * ((f 3) * (g 3)) := by rw [show z6 = _ from h3]; exact Int.mul_left_comm _ _ _
  have qz5 : (f 4) * z5 = 19 * ((f 4) * (g 2)) := by rw [show z5 = _ from h2]; exact Int.mul_left_comm _ _ _
  omega
 have t2 : hi15 * 18446744073709551616 + lo15 = f 0 * g 2 + f 1 * g 1 + f 2 * g 0 + 19 * (f 3 * g 4) + 19 * (f 4 * g 3) := by
  have a_eq11 : _ = _ := eq11
  have a_eq12 : _ = _ := eq12
  have a_eq13 : _ = _ := eq13
  have a_eq14 : _ = _ := eq14
  have a_eq15 : _ = _ := eq15
  have qz7 : (f 3) * z7 = 19 * ((f 3) * (g 4)) := by rw [show z7 = _ from h4]; exact Int.mul_left_comm _ _ _
  have qz6 : (f 4) * z6 = 19 * ((f 4) * (g 3)) := by rw [show z6 = _ from h3]; exact Int.mul_left_comm _ _ _
  omega
 have t3 : hi20 * 18446744073709551616 + lo20 = f 0 * g 3 + f 1 * g 2 + f 2 * g 1 + f 3 * g 0 + 19 * (f 4 * g 4) := by
  have a_eq16 : _ = _ := eq16
  have a_eq17 : _ = _ := eq17
  have a_eq18 : _ = _ := eq18
  have a_eq19 : _ = _ := eq19
  have a_eq20 : _ = _ := eq20
  have qz7 : (f 4) * z7 = 19 * ((f 4) * (g 4)) := by rw [show z7 = _ from h4]; exact Int.mul_left_comm _ _ _
  omega
 have t4 : hi25 * 18446744073709551616 + lo25 = f 0 * g 4 + f 1 * g 3 + f 2 * g 2 + f 3 * g 1 + f 4 * g 0 := by
  have a_eq21 : _ = _ := eq21
  have a_eq22 : _ = _ := eq22
  have a_eq23 : _ = _ := eq23
  have a_eq24 : _ = _ := eq24
  have a_eq25 : _ = _ := eq25
  omega
 exact ⟨hh1, rfl, ⟨(In.wk r42 rfl), (In.wk r43 rfl), (In.wk r44 rfl), (In.wk r45 rfl), (In.wk r46 rfl), mul_fp hfv hgv (z59 + c41) _ _ _ _ _ t0 t1 t2 t3 t4 (by clear t0 t1 t2 t3 t4; simp only [Eqn] at h5 h6 h7 h8 h9 h10 h11 h12 h13 h14 h15 h16 h17 h18 h19 h20 h21 h22 h23 h24 h25 h26 h27 h28 h29 h30 h31 h32 h33 h34 h35 h36 h37 h38 h39 h40 h41; omega)⟩, hB⟩
end Go.Proofs.Ytkngeapegpehpaa.W
namespace Go.Eng
open Go Go.IntWalk
theorem or_in {k : IntKind} {x y e : Int} (hk : uns k = true) (he : bits .or k x y = e) : In e 0 (kmax k) := he ▸ bits_in hk _ _ _
theorem zero_or {k : IntKind} {y a b : Int} (hk : uns k = true) (hy : In y a b) (h0 : decide (0 ≤ a) = true) (hf : fits k a b = true) : bits .or k 0 y = y := by
  have h1 := of_decide_eq_true h0
  have hf' := hf
  simp only [fits, Bool.and_eq_true, decide_eq_true_eq] at hf'
  have hkm : kmax k + 1 = 2 ^ k.bits := by cases k <;> first | (exact absurd hk (by decide)) | rfl
  have hb : y < 2 ^ k.bits := by unfold In at hy; omega
  have h2 := bits_join k k.bits (Nat.le_refl _) (wraps_of hk) k.bits 0 y (Int.le_refl _) (Int.zero_emod _) (Int.pow_pos (by decide)) (by unfold In at hy; omega) hb hb
  rw [h2, Int.zero_add]
section
variable {P : Program} {n : Nat} {f : Fr} {w : World} {ty : TypeId} {fin : Exit → Act → World → Prop} {k : List KI}
theorem results_cc {fn : Func} {a : Act} {w : World} {t u : Nat} {T U : TypeId} {b c : Addr} {v x : Value} (h : fn.results = #[.cell t T, .cell u U]) (h1 : a.tmps.getD t undef = .pointer (some b)) (h3 : (loadVar T b).run P w = .ok v w) (h2 : a.tmps.getD u undef = .pointer (some c)) (h4 : (loadVar U c).run P w = .ok x w) : (results fn a.tmps).run P w = .ok (.tuple #[v, x]) w := by
  have h1' : (a.tmps[t]?).getD undef = .pointer (some b) := by rw [← Array.getD_eq_getD_getElem?]; exact h1
  have h2' : (a.tmps[u]?).getD undef = .pointer (some c) := by rw [← Array.getD_eq_getD_getElem?]; exact h2
  simp [results, h, h1, h1', h2, h2', asAddr, h3, h4]
theorem tw_retcc {fn : Func} {R : Value → World → Prop} (hfin : ∀ a w, (a.defers = [] ∧ ∃ v, (results fn a.tmps).run P w = .ok v w ∧ R v w) → fin .ret a w ∧ fin .normal a w) {t u : Nat} {T U : TypeId} {b c : Addr} {v x : Value} (hres : fn.results = #[.cell t T, .cell u U]) (h1 : f.get t = some (.pointer (some b))) (h3 : (loadVar T b).run P w = .ok v w) (h2 : f.get u = some (.pointer (some c))) (h4 : (loadVar U c).run P w = .ok x w) (hR : R (.tuple #[v, x]) w) :
    TW P fin n (.c .ret :: k) f w := fun a ha => wp_ret (by
  rw [KQ_ret]
  exact (hfin a w ⟨ha.defers, _, results_cc hres (ha.get t _ h1) h3 (ha.get u _ h2) h4, hR⟩).1)
section
variable {l : List Oper} {p s0 i : Nat} {T cs r : List Nat} {Fin : Fr → World → Prop}
theorem pa_gdk (f1 f2 : Fr) {op : Op} {d : Nat} {pos : String} {aft : Array Edge} {j : Nat} {want c : Bool} {V : Value} (ho : l[i]? = some ⟨some d, op, ty, pos, aft, some (j, want)⟩) (hc : cs.contains i = true) (hs : Fr.sub f1 f) (hk : slotsOk l p i f1 = true)
    (hG : Grd n l.toArray f1 j want c) (hu : UndF c f2 f1) (hV : cblk V = []) (hr : ∀ w1, Keep [] w w1 → c = true → Does P n f2 w1 op ty (fun v w' => v = V ∧ Keep [] w1 w'))
    (h : ∀ w', Keep [] w w' → PA P n l p T s0 (fun i => cs.contains i) Fin r ((d, gv c V) :: f) w') : PA P n l p T s0 (fun i => cs.contains i) Fin (i :: r) f w := by
  unfold PA
  refine ⟨_, f1, ho, hs, hk, .inl ⟨hc, fun w1 k1 a ha K Q hK => ?_⟩⟩
  have hg := hG a ha
  have hwt : Region.wanted ⟨some d, op, ty, pos, aft, some (j, want)⟩ (yielded l.toArray a.tmps) = c := hg
  rw [hwt]
  refine ⟨fun hct => ?_, fun hcf => ?_⟩
  · refine hr w1 k1 hct a (ha.undF hct hu) _ _ _ _ _ _ (fun v w' hv => hK _ _ ⟨hv.2.weak, ?_, ?_⟩)
    · rw [hv.1, hV]; intro x hx; cases hx
    · have := h w' (k1.trans hv.2)
      rw [gv_true hct] at this
      rw [frPut_at ho, hv.1]; exact this
  · refine hK _ _ ⟨Keep.refl _ _, (fun x hx => by cases hx), ?_⟩
    have := h w1 k1
    rw [gv_false hcf] at this
    rw [frPut_at ho]; exact this
theorem pa_pand {x y : Tmp} {d : Nat} {pos : String} {aft : Array Edge} {j dj : Nat} {want c c2 b b2 : Bool} (f1 : Fr) (ho : l[i]? = some ⟨some d, .pick (.tmp x) (.tmp y) (.const (.bool false)), ty, pos, aft, some (j, want)⟩) (hc : cs.contains i = false) (hs : Fr.sub f1 f) (hk : slotsOk l p i f1 = true)
    (hG : Grd n l.toArray f1 j want c) (hx : Und c f1 x (.bool b)) (hy : f1.get y = some (gv c2 (.bool b2))) (hc2 : c2 = (c && (b == true))) (hxy : Nat.beq y x = false)
    (h : PA P n l p T s0 (fun i => cs.contains i) Fin r ((d, gv c (.bool (b && b2))) :: f) w) : PA P n l p T s0 (fun i => cs.contains i) Fin (i :: r) f w := by
  cases c with
  | false => exact pa_gg (c := false) f1 [] ho hc hs hk hG trivial (fun h => by cases h) h
  | true =>
    have hc2' : c2 = (b == true) := by rw [hc2, Bool.true_and]
    obtain ⟨u, hu, hu'⟩ := hx
    have hu2 := hu' rfl
    subst hu2
    refine pa_gg f1 [(y, gv c2 (.bool b2)), (x, .bool b)] ho hc hs hk hG ⟨und0 hy, und0 hu, trivial⟩ (fun _ w' _ => g_pand (x := .tmp x) (y := .tmp y) ?_ ?_ hc2') h
    · show Fr.get _ x = _
      simp only [Fr.get, hxy, cond_false, Nat.beq_refl, cond_true]
    · show Fr.get _ y = _
      simp only [Fr.get, Nat.beq_refl, cond_true]
end
theorem g_sap {x : Operand} {t e : TypeId} {m : Nat} {s m' : Nat} {v : Value} {cs : List Value} (ht : P.underlying t = some (.array m e)) (hx : f.ev x = some v) (hr : Rd w s v m' cs) (h : Nat.ble m m' = true) (h0 : Nat.blt 0 m = true) :
    Gives P n f w (.sliceToArrayPointer t x) ty (.pointer (some (ea v 0))) w := by
  intro a ha dst pos aft g
  obtain ⟨A, c, rfl, h1, h2, h3, h4, h5⟩ := hr
  have hle := Nat.le_of_ble_eq_true h
  have hlt := blt_lt h0
  cases A with
  | none => have := h4 rfl; omega
  | some a0 =>
    have hn : ¬ m' < m := by omega
    simp [execOp, ha.ev hx, Instr.arrayAt, run_underlying ht, hn, ea, Addr.add]
theorem g_ldaB {x : Operand} {t : TypeId} {zs : List Value} {s b : Nat} {v : Value} {xs : List UInt8} (ht : agB P t = true) (hs : Ty P t zs s b) (hx : f.ev x = some (.pointer (some (ea v 0)))) (hr : RdB w v xs) (hl : xs.length = s) (h0 : Nat.blt 0 s = true) :
    Gives P n f w (.load t x) ty (.agg (bv xs).toArray) w := by
  refine g_lda ht hs hx ?_ (by rw [bv_length]; exact hl)
  obtain ⟨A, c, rfl, h1, h2, h3, h4, h5⟩ := hr
  have hlt := blt_lt h0
  cases A with
  | none => have := h4 rfl; omega
  | some a0 => have := h5 a0 rfl; simpa [ea, Addr.add] using this
theorem g_eqB {t e u : TypeId} {m : Nat} {x y : Operand} {xs ys : List UInt8} (ht : P.underlying t = some (.array m e)) (he : P.underlying e = some (.int .u8)) (hs : ∀ w, (sizeOf e).run P w = .ok 1 w) (hg : P.eqGuardType P.depth t = false)
    (hx : f.ev x = some (.agg (bv xs).toArray)) (hy : f.ev y = some (.agg (bv ys).toArray)) (hxl : xs.length = m) (hyl : ys.length = m) :
    Gives P n f w (.binOp .eql t x y u) ty (.bool (decide (xs = ys))) w :=
  run_bin hx hy (fun x y => run_eqGuard_agg w _ _ _ _ _ _ hg) (by
    have := run_eql_bytes (P := P) w t e m ht he hs xs ys hxl hyl
    have e1 : (xs == ys) = decide (xs = ys) := by cases h : xs == ys <;> simp_all
    rw [e1] at this
    exact this)
end
end Go.Eng
namespace Go.Fld
open Go Go.Eng Go.Ed
theorem fpow_dbl (x : Fp) (i : Nat) : fpow x (2 ^ i) * fpow x (2 ^ i) = fpow x (2 ^ (i + 1)) := by rw [← fpow_add, Nat.pow_succ, Nat.mul_two]
theorem el_mul {f : Nat → Int} {x : Fp} {m n k : Nat} (h : El f (fpow x m * fpow x n)) (hk : Nat.beq (m + n) k = true) : El f (fpow x k) := by
  rw [← Nat.eq_of_beq_eq_true hk, fpow_add]; exact h
theorem el_sq {f : Nat → Int} {x : Fp} {m n k : Nat} (h : El f (fpow (fpow x m) (2 ^ n))) (hk : Nat.beq (m * 2 ^ n) k = true) : El f (fpow x k) := by
  rw [← Nat.eq_of_beq_eq_true hk, fpow_mul]; exact h
theorem el_one {f : Nat → Int} {x : Fp} (h : El f x) : El f (fpow x 1) := by rw [one_fpow]; exact h
theorem el_two : El (vecN [2, 0, 0, 0, 0]) (fpow 2 1) := ⟨by decide, by decide, by decide, by decide, by decide, by decide⟩
theorem el_zero : El (fun _ => 0) 0 := ⟨by decide, by decide, by decide, by decide, by decide, by decide⟩
theorem leI_drop (xs : List UInt8) (i : Nat) (h : i < xs.length) : leI (xs.drop i) = gb xs (i : Int) + 256 * leI (xs.drop (i + 1)) := by
  rw [List.drop_eq_getElem_cons h, leI]
  unfold gb
  simp [h]
theorem leI_end (xs : List UInt8) (i : Nat) (h : xs.length ≤ i) : leI (xs.drop i) = 0 := by rw [List.drop_eq_nil_of_le h, leI]
def byteN (n : Int) (j : Nat) : Int := n / 256 ^ j % 256
theorem bv_leB : ∀ (k : Nat) (n : Int) (i : Nat), bv (leB (n / 256 ^ i) k) = ivF .u8 (byteN n) i k
  | 0, _, _ => rfl
  | k + 1, n, i => by
    have e : (n / 256 ^ i) / 256 = n / 256 ^ (i + 1) := by rw [Int.pow_succ, Int.ediv_ediv_of_nonneg (Int.pow_nonneg (by decide))]
    have h0 := Int.emod_nonneg (n / 256 ^ i) (show (256 : Int) ≠ 0 by decide)
    have h1 := Int.emod_lt_of_pos (n / 256 ^ i) (show (0 : Int) < 256 by decide)
    simp only [leB, ivF]
    rw [← bv_leB k n (i + 1), ← e]
    have h2 : ((UInt8.ofNat (n / 256 ^ i % 256).toNat).toNat : Int) = byteN n i := by
      unfold byteN
      simp; omega
    show Value.int .u8 _ :: bv _ = _
    rw [h2]
theorem bv_fpB (a : Fp) : bv (fpB a) = iv .u8 32 (byteN a.val) := by
  have := bv_leB 32 (a.val : Int) 0
  rw [Int.pow_zero, Int.ediv_one] at this
  exact this
theorem words_bytes {V w0 w1 w2 w3 : Int} (h0 : In w0 0 18446744073709551615) (h1 : In w1 0 18446744073709551615) (h2 : In w2 0 18446744073709551615) (h3 : In w3 0 18446744073709551615) (hV : V = w0 + w1 * 18446744073709551616 + w2 * 340282366920938463463374607431768211456 + w3 * 6277101735386680763835789423207666416102355444464034512896) :
    iv .u8 32 (byteN V) = [.int .u8 (w0 / 1 % 256), .int .u8 (w0 / 256 % 256), .int .u8 (w0 / 65536 % 256), .int .u8 (w0 / 16777216 % 256), .int .u8 (w0 / 4294967296 % 256), .int .u8 (w0 / 1099511627776 % 256), .int .u8 (w0 / 281474976710656 % 256), .int .u8 (w0 / 72057594037927936), .int .u8 (w1 / 1 % 256), .int .u8 (w1 / 256 % 256), .int .u8 (w1 / 65536 % 256), .int .u8 (w1 / 16777216 % 256), .int .u8 (w1 / 4294967296 % 256), .int .u8 (w1 / 1099511627776 % 256), .int .u8 (w1 / 281474976710656 % 256), .int .u8 (w1 / 72057594037927936), .int .u8 (w2 / 1 % 256), .int .u8 (w2 / 256 % 256), .int .u8 (w2 / 65536 % 256), .int .u8 (w2 / 16777216 % 256), .int .u8 (w2 / 4294967296 % 256), .int .u8 (w2 / 1099511627776 % 256), .int .u8 (w2 / 281474976710656 % 256), .int .u8 (w2 / 72057594037927936), .int .u8 (w3 / 1 % 256), .int .u8 (w3 / 256 % 256), .int .u8 (w3 / 65536 % 256), .int .u8 (w3 / 16777216 % 256), .int .u8 (w3 / 4294967296 % 256), .int .u8 (w3 / 1099511627776 % 256), .int .u8 (w3 / 281474976710656 % 256), .int .u8 (w3 / 72057594037927936)] := by
  unfold In at *
  show [Value.int .u8 (byteN V 0), Value.int .u8 (byteN V 1), Value.int .u8 (byteN V 2), Value.int .u8 (byteN V 3), Value.int .u8 (byteN V 4), Value.int .u8 (byteN V 5), Value.int .u8 (byteN V 6), Value.int .u8 (byteN V 7), Value.int .u8 (byteN V 8), Value.int .u8 (byteN V 9), Value.int .u8 (byteN V 10), Value.int .u8 (byteN V 11), Value.int .u8 (byteN V 12), Value.int .u8 (byteN V 13), Value.int .u8 (byteN V 14), Value.int .u8 (byteN V 15), Value.int .u8 (byteN V 16), Value.int .u8 (byteN V 17), Value.int .u8 (byteN V 18), Value.int .u8 (byteN V 19), Value.int .u8 (byteN V 20), Value.int .u8 (byteN V 21), Value.int .u8 (byteN V 22), Value.int .u8 (byteN V 23), Value.int .u8 (byteN V 24), Value.int .u8 (byteN V 25), Value.int .u8 (byteN V 26), Value.int .u8 (byteN V 27), Value.int .u8 (byteN V 28), Value.int .u8 (byteN V 29), Value.int .u8 (byteN V 30), Value.int .u8 (byteN V 31)] = _
  unfold byteN
  rw [show V / 256 ^ 0 % 256 = w0 / 1 % 256 from by (have e : (256 : Int) ^ 0 = 1 := rfl); rw [e]; omega]
  rw [show V / 256 ^ 1 % 256 = w0 / 256 % 256 from by (have e : (256 : Int) ^ 1 = 256 := rfl); rw [e]; omega]
  rw [show V / 256 ^ 2 % 256 = w0 / 65536 % 256 from by (have e : (256 : Int) ^ 2 = 65536 := rfl); rw [e]; omega]
  rw [show V / 256 ^ 3 % 256 = w0 / 16777216 % 256 from by (have e : (256 : Int) ^ 3 = 16777216 := rfl); rw [e]; omega]
  rw [show V / 256 ^ 4 % 256 = w0 / 4294967296 % 256 from by (have e : (256 : Int) ^ 4 = 4294967296 := rfl); rw [e]; omega]
  rw [show V / 256 ^ 5 % 256 = w0 / 1099511627776 % 256 from by (have e : (256 : Int) ^ 5 = 1099511627776 := rfl); rw [e]; omega]
  rw [show V / 256 ^ 6 % 256 = w0 / 281474976710656 % 256 from by (have e : (256 : Int) ^ 6 = 281474976710656 := rfl); rw [e]; omega]
  rw [show V / 256 ^ 7 % 256 = w0 / 72057594037927936 from by (have e : (256 : Int) ^ 7 = 72057594037927936 := rfl); rw [e]; omega]
  rw [show V / 256 ^ 8 % 256 = w1 / 1 % 256 from by (have e : (256 : Int) ^ 8 = 18446744073709551616 := rfl); rw [e]; omega]
  rw [show V / 256 ^ 9 % 256 = w1 / 256 % 256 from by (have e : (256 : Int) ^ 9 = 4722366482869645213696 := rfl); rw [e]; omega]
  rw [show V / 256 ^ 10 % 256 = w1 / 65536 % 256 from by (have e : (256 : Int) ^ 10 = 1208925819614629174706176 := rfl); rw [e]; omega]
  rw [show V / 256 ^ 11 % 256 = w1 / 16777216 % 256 from by (have e : (256 : Int) ^ 11 = 309485009821345068724781056 := rfl); rw [e]; omega]
  rw [show V / 256 ^ 12 % 256 = w1 / 4294967296 % 256 from by (have e : (256 : Int) ^ 12 = 79228162514264337593543950336 := rfl); rw [e]; omega]
  rw [show V / 256 ^ 13 % 256 = w1 / 1099511627776 % 256 from by (have e : (256 : Int) ^ 13 = 20282409603651670423947251286016 := rfl); rw [e]; omega]
  rw [show V / 256 ^ 14 % 256 = w1 / 281474976710656 % 256 from by (have e : (256 : Int) ^ 14 = 5192296858534827628530496329220096 := rfl); rw [e]; omega]
  rw [show V / 256 ^ 15 % 256 = w1 / 72057594037927936 from by (have e : (256 : Int) ^ 15 = 1329227995784915872903807060280344576 := rfl); rw [e]; omega]
  rw [show V / 256 ^ 16 % 256 = w2 / 1 % 256 from by (have e : (256 : Int) ^ 16 = 340282366920938463463374607431768211456 := rfl); rw [e]; omega]
  rw [show V / 256 ^ 17 % 256 = w2 / 256 % 256 from by (have e : (256 : Int) ^ 17 = 87112285931760246646623899502532662132736 := rfl); rw [e]; omega]
  rw [show V / 256 ^ 18 % 256 = w2 / 65536 % 256 from by (have e : (256 : Int) ^ 18 = 22300745198530623141535718272648361505980416 := rfl); rw [e]; omega]
  rw [show V / 256 ^ 19 % 256 = w2 / 16777216 % 256 from by (have e : (256 : Int) ^ 19 = 5708990770823839524233143877797980545530986496 := rfl); rw [e]; omega]
  rw [show V / 256 ^ 20 % 256 = w2 / 4294967296 % 256 from by (have e : (256 : Int) ^ 20 = 1461501637330902918203684832716283019655932542976 := rfl); rw [e]; omega]
  rw [show V / 256 ^ 21 % 256 = w2 / 1099511627776 % 256 from by (have e : (256 : Int) ^ 21 = 374144419156711147060143317175368453031918731001856 := rfl); rw [e]; omega]
  rw [show V / 256 ^ 22 % 256 = w2 / 281474976710656 % 256 from by (have e : (256 : Int) ^ 22 = 95780971304118053647396689196894323976171195136475136 := rfl); rw [e]; omega]
  rw [show V / 256 ^ 23 % 256 = w2 / 72057594037927936 from by (have e : (256 : Int) ^ 23 = 24519928653854221733733552434404946937899825954937634816 := rfl); rw [e]; omega]
  rw [show V / 256 ^ 24 % 256 = w3 / 1 % 256 from by (have e : (256 : Int) ^ 24 = 6277101735386680763835789423207666416102355444464034512896 := rfl); rw [e]; omega]
  rw [show V / 256 ^ 25 % 256 = w3 / 256 % 256 from by (have e : (256 : Int) ^ 25 = 1606938044258990275541962092341162602522202993782792835301376 := rfl); rw [e]; omega]
  rw [show V / 256 ^ 26 % 256 = w3 / 65536 % 256 from by (have e : (256 : Int) ^ 26 = 411376139330301510538742295639337626245683966408394965837152256 := rfl); rw [e]; omega]
  rw [show V / 256 ^ 27 % 256 = w3 / 16777216 % 256 from by (have e : (256 : Int) ^ 27 = 105312291668557186697918027683670432318895095400549111254310977536 := rfl); rw [e]; omega]
  rw [show V / 256 ^ 28 % 256 = w3 / 4294967296 % 256 from by (have e : (256 : Int) ^ 28 = 26959946667150639794667015087019630673637144422540572481103610249216 := rfl); rw [e]; omega]
  rw [show V / 256 ^ 29 % 256 = w3 / 1099511627776 % 256 from by (have e : (256 : Int) ^ 29 = 6901746346790563787434755862277025452451108972170386555162524223799296 := rfl); rw [e]; omega]
  rw [show V / 256 ^ 30 % 256 = w3 / 281474976710656 % 256 from by (have e : (256 : Int) ^ 30 = 1766847064778384329583297500742918515827483896875618958121606201292619776 := rfl); rw [e]; omega]
  rw [show V / 256 ^ 31 % 256 = w3 / 72057594037927936 from by (have e : (256 : Int) ^ 31 = 452312848583266388373324160190187140051835877600158453279131187530910662656 := rfl); rw [e]; omega]
theorem carry_twice {f0 f1 f2 f3 f4 c0 c1 c2 c3 c4 g0 g1 g2 g3 g4 d0 d1 d2 d3 d4 h0 : Int} (e0 : c0 = f0 / 2251799813685248) (e1 : c1 = (f1 + c0) / 2251799813685248) (e2 : c2 = (f2 + c1) / 2251799813685248) (e3 : c3 = (f3 + c2) / 2251799813685248) (e4 : c4 = (f4 + c3) / 2251799813685248)
    (k0 : g0 = f0 % 2251799813685248 + 19 * c4) (k1 : g1 = (f1 + c0) % 2251799813685248) (k2 : g2 = (f2 + c1) % 2251799813685248) (k3 : g3 = (f3 + c2) % 2251799813685248) (k4 : g4 = (f4 + c3) % 2251799813685248)
    (r0 : In f0 0 4503599627370495) (r1 : In f1 0 4503599627370495) (r2 : In f2 0 4503599627370495) (r3 : In f3 0 4503599627370495) (r4 : In f4 0 4503599627370495)
    (e0' : d0 = g0 / 2251799813685248) (e1' : d1 = (g1 + d0) / 2251799813685248) (e2' : d2 = (g2 + d1) / 2251799813685248) (e3' : d3 = (g3 + d2) / 2251799813685248) (e4' : d4 = (g4 + d3) / 2251799813685248) (k0' : h0 = g0 % 2251799813685248 + 19 * d4) : In h0 0 2251799813685247 := by
  unfold In at *
  omega
theorem limb1 {a b : Int} (ha : In a 0 18446744073709551615) (hb : In b 0 18446744073709551615) : (a / 2251799813685248 + b * 8192 % 18446744073709551616) % 2251799813685248 = a / 2251799813685248 + 8192 * (b % 274877906944) := by
  unfold In at *
  have e : b * 8192 % 18446744073709551616 = 8192 * (b % 2251799813685248) := by omega
  rw [e]; omega
theorem limb2 {a b : Int} (ha : In a 0 18446744073709551615) (hb : In b 0 18446744073709551615) : (a / 274877906944 + b * 67108864 % 18446744073709551616) % 2251799813685248 = a / 274877906944 + 67108864 * (b % 33554432) := by
  unfold In at *
  have e : b * 67108864 % 18446744073709551616 = 67108864 * (b % 274877906944) := by omega
  rw [e]; omega
theorem limb3 {a b : Int} (ha : In a 0 18446744073709551615) (hb : In b 0 18446744073709551615) : (a / 33554432 + b * 549755813888 % 18446744073709551616) % 2251799813685248 = a / 33554432 + 549755813888 * (b % 4096) := by
  unfold In at *
  have e : b * 549755813888 % 18446744073709551616 = 549755813888 * (b % 33554432) := by omega
  rw [e]; omega
theorem get_val {w0 w1 w2 w3 : Int} (h0 : In w0 0 18446744073709551615) (h1 : In w1 0 18446744073709551615) (h2 : In w2 0 18446744073709551615) (h3 : In w3 0 18446744073709551615) :
    w0 % 2251799813685248 + 19 * (w3 / 9223372036854775808) + (w0 / 2251799813685248 + w1 * 8192 % 18446744073709551616) % 2251799813685248 * 2251799813685248 + (w1 / 274877906944 + w2 * 67108864 % 18446744073709551616) % 2251799813685248 * 5070602400912917605986812821504 + (w2 / 33554432 + w3 * 549755813888 % 18446744073709551616) % 2251799813685248 * 11417981541647679048466287755595961091061972992 + w3 / 4096 % 2251799813685248 * 25711008708143844408671393477458601640355247900524685364822016 =
    w0 + w1 * 18446744073709551616 + w2 * 340282366920938463463374607431768211456 + w3 * 6277101735386680763835789423207666416102355444464034512896 - w3 / 9223372036854775808 * 57896044618658097711785492504343953926634992332820282019728792003956564819949 := by
  rw [limb1 h0 h1, limb2 h1 h2, limb3 h2 h3]
  unfold In at *
  omega
theorem put_words {x0 x1 x2 x3 x4 : Int} (h0 : In x0 0 2251799813685247) (h1 : In x1 0 2251799813685247) (h2 : In x2 0 2251799813685247) (h3 : In x3 0 2251799813685247) (h4 : In x4 0 2251799813685247) :
    x0 + x1 * 2251799813685248 + x2 * 5070602400912917605986812821504 + x3 * 11417981541647679048466287755595961091061972992 + x4 * 25711008708143844408671393477458601640355247900524685364822016 = x0 + x1 * 2251799813685248 % 18446744073709551616 + (x1 / 8192 + x2 * 274877906944 % 18446744073709551616) * 18446744073709551616 + (x2 / 67108864 + x3 * 33554432 % 18446744073709551616) * 340282366920938463463374607431768211456 + (x3 / 549755813888 + x4 * 4096) * 6277101735386680763835789423207666416102355444464034512896 := by
  unfold In at *
  have e1 : x1 * 2251799813685248 % 18446744073709551616 = 2251799813685248 * (x1 % 8192) := by omega
  have e2 : x2 * 274877906944 % 18446744073709551616 = 274877906944 * (x2 % 67108864) := by omega
  have e3 : x3 * 33554432 % 18446744073709551616 = 33554432 * (x3 % 549755813888) := by omega
  rw [e1, e2, e3]; omega
theorem fpB_dec (a b : Fp) : decide (fpB a = fpB b) = decide (a = b) := by
  by_cases h : a = b
  · subst h; simp
  · rw [decide_eq_false h, decide_eq_false (fun e => h (fpB_inj e))]
end Go.Fld
namespace Go.Proofs.Ytkngeapegpehpaa.W
open Go Go.Eng Go.Byt
set_option linter.unusedVariables false
set_option linter.unusedSimpArgs false
open Go.Fld Go.Ed
set_option maxRecDepth 100000 in
theorem squares_any (f : Nat → Int) (a : Fp) (n : Int) (hf : El f a) (hn : 0 ≤ n ∧ n ≤ 1000) (w : World) : Rets Try.prog 88 [.agg (iv .u64 5 f).toArray, .int .i64 n] w (fun v w' => ∃ h, v = .agg (iv .u64 5 h).toArray ∧ El h (fpow a (2 ^ n.toNat)) ∧ Keep [] w w') := by
 have hB : Keep [] w w := Keep.refl _ _
 refine rets_of_tw Try.func88 rfl (by decide) Try.ntmps88 rfl (fun fin _ hfin => ?_)
 refine tw_seq (tw_region (ow_d (d_box (cs := [.int .u64 (f 0), .int .u64 (f 1), .int .u64 (f 2), .int .u64 (f 3), .int .u64 (f 4)]) rfl rfl) rfl ?_))
 rintro _ w1 ⟨b1, rfl, eb1, hb1, k1, z1⟩
 have ge_b1 : w.heap.size ≤ b1 := by have := hB.size; omega
 replace hB := hB.trans k1
 clear eb1 z1
 refine ow_d (d_alloc ty26) rfl ?_
 rintro _ w2 ⟨b2, rfl, eb2, hb2, k2, z2⟩
 have ge_b2 : w.heap.size ≤ b2 := by have := hB.size; omega
 have ne_b1_b2 : b1 ≠ b2 := by have := hb1.lt; omega
 replace hb1 := hb1.keep0 k2
 replace hB := hB.trans k2
 clear eb2 z2
 refine ow_nil (tw_seq (tw_seq (tw_region (ow_g (g_mv rfl) rfl (ow_g (g_mv rfl) rfl (ow_nil ?_))))))
 refine tw_block (tw_loop (Γ := Int × (Nat → Int)) (fun ⟨i, h⟩ => [(2, .pointer (some ⟨b1, 0, none⟩)), (4, .pointer (some ⟨b2, 0, none⟩)), (5, .int .i64 n), (6, .int .i64 i)]) (fun ⟨i, h⟩ W => 0 ≤ i ∧ i ≤ n ∧ El h (fpow a (2 ^ i.toNat)) ∧ Bk W b1 26 (iv .u64 5 h) ∧ Bk W b2 26 [.int .u64 0, .int .u64 0, .int .u64 0, .int .u64 0, .int .u64 0] ∧ Keep [] w W) (fun ⟨i, h⟩ => (n - i).toNat) ⟨0, f⟩ ⟨rfl, rfl, rfl, rfl, trivial⟩ (⟨by decide, by omega, by simpa [one_fpow] using hf, hb1, hb2, hB⟩) ?_)
 rintro ⟨i, h⟩ w3 ⟨hi0, hi1, hE, hb1, hb2, hB⟩
 refine tw_keep [(2, .pointer (some ⟨b1, 0, none⟩)), (4, .pointer (some ⟨b2, 0, none⟩)), (5, .int .i64 n), (6, .int .i64 i)] ⟨rfl, rfl, rfl, rfl, trivial⟩ ?_
 have zz := hB.size
 refine tw_seq (tw_region (ow_g (g_lt rfl rfl) rfl ?_))
 refine ow_nil (tw_seq (tw_if rfl (fun hc1 => ?_) (fun hc1 => ?_)))
 ·
  refine tw_skip (tw_seq (tw_block (tw_region (ow_g (g_ldab (cs' := [_, _, _, _, _]) ag26 ty26 rfl hb1 rfl rfl) rfl ?_))))
  refine ow_g (g_ldab (cs' := [_, _, _, _, _]) ag26 ty26 rfl hb1 rfl rfl) rfl ?_
  refine ow_d (d_call (vs := [_, _]) rfl (mul_any _ _ _ _ hE hE _)) rfl ?_
  rintro _ w4 ⟨hh1, rfl, E1, k3⟩
  replace hb1 := hb1.keep0 k3
  replace hb2 := hb2.keep0 k3
  replace hB := hB.trans k3
  refine ow_d0 (d_sta ty26 rfl rfl rfl ivF_one hb1 rfl) ?_
  rintro _ w5 ⟨hb3, k4, z3⟩
  replace hb2 := hb2.keep k4 (fun hm => absurd (List.mem_singleton.1 hm) (Ne.symm ne_b1_b2))
  replace hB := hB.new k4 (fun x hx => .inl ((List.mem_singleton.1 hx) ▸ ge_b1))
  clear z3
  replace hb3 : Bk w5 b1 _ [.int .u64 (hh1 0), .int .u64 (hh1 1), .int .u64 (hh1 2), .int .u64 (hh1 3), .int .u64 (hh1 4)] := hb3
  refine ow_nil (tw_b (tw_region (ow_g (g_add rfl rfl (by omega)) rfl ?_)))
  refine ow_g (g_mv rfl) rfl (ow_nil (tw_inv (Γ := Int × (Nat → Int)) ⟨i + 1, hh1⟩ ⟨rfl, rfl, rfl, rfl, trivial⟩ (by (try dsimp only); omega) (⟨by omega, by omega, by rw [show (i + 1).toNat = i.toNat + 1 from by omega, ← fpow_dbl]; exact E1, by assumption, by assumption, hB⟩)))
 ·
  refine tw_exit rfl ?_
  refine tw_seq (tw_region (ow_g (g_ldab (cs' := [_, _, _, _, _]) ag26 ty26 rfl hb1 rfl rfl) rfl ?_))
  refine ow_d0 (d_sta ty26 rfl rfl rfl (by simp only [List.forall_mem_cons]; refine ⟨rfl, rfl, rfl, rfl, rfl, fun v hv => by cases hv⟩) hb2 rfl) ?_
  rintro _ w6 ⟨hb4, k5, z4⟩
  replace hb1 := hb1.keep k5 (fun hm => absurd (List.mem_singleton.1 hm) ne_b1_b2)
  replace hB := hB.new k5 (fun x hx => .inl ((List.mem_singleton.1 hx) ▸ ge_b2))
  clear z4
  replace hb4 : Bk w6 b2 _ [.int .u64 (h 0), .int .u64 (h 1), .int .u64 (h 2), .int .u64 (h 3), .int .u64 (h 4)] := hb4
  refine ow_nil (tw_retc hfin Try.results88 rfl (run_loadAgg ag26 ty26 ‹_› rfl)  ?_)
  obtain rfl : i = n := by omega
  exact ⟨h, rfl, hE, hB⟩
set_option maxRecDepth 100000 in
theorem ones_any (f : Nat → Int) (a : Fp) (hf : El f (fpow a 1)) (w : World) : Rets Try.prog 87 [.agg (iv .u64 5 f).toArray] w (fun v w' => ∃ g h, v = .tuple #[.agg (iv .u64 5 g).toArray, .agg (iv .u64 5 h).toArray] ∧ El g (fpow a 1809251394333065553493296640760748560207343510400633813116524750123642650623) ∧ El h (fpow a 11) ∧ Keep [] w w') := by
 have hB : Keep [] w w := Keep.refl _ _
 refine rets_of_tw Try.func87 rfl (by decide) Try.ntmps87 rfl (fun fin _ hfin => ?_)
 refine tw_seq (tw_region (ow_d (d_box (cs := [.int .u64 (f 0), .int .u64 (f 1), .int .u64 (f 2), .int .u64 (f 3), .int .u64 (f 4)]) rfl rfl) rfl ?_))
 rintro _ w1 ⟨b1, rfl, eb1, hb1, k1, z1⟩
 have ge_b1 : w.heap.size ≤ b1 := by have := hB.size; omega
 replace hB := hB.trans k1
 clear eb1 z1
 refine ow_d (d_alloc ty26) rfl ?_
 rintro _ w2 ⟨b2, rfl, eb2, hb2, k2, z2⟩
 have ge_b2 : w.heap.size ≤ b2 := by have := hB.size; omega
 have ne_b1_b2 : b1 ≠ b2 := by have := hb1.lt; omega
 replace hb1 := hb1.keep0 k2
 replace hB := hB.trans k2
 clear eb2 z2
 refine ow_d (d_alloc ty26) rfl ?_
 rintro _ w3 ⟨b3, rfl, eb3, hb3, k3, z3⟩
 have ge_b3 : w.heap.size ≤ b3 := by have := hB.size; omega
 have ne_b1_b3 : b1 ≠ b3 := by have := hb1.lt; omega
 have ne_b2_b3 : b2 ≠ b3 := by have := hb2.lt; omega
 replace hb1 := hb1.keep0 k3
 replace hb2 := hb2.keep0 k3
 replace hB := hB.trans k3
 clear eb3 z3
 refine ow_nil (tw_seq (tw_region (ow_g (g_ldab (cs' := [_, _, _, _, _]) ag26 ty26 rfl hb1 rfl rfl) rfl ?_)))
 refine ow_d (d_call (vs := [_, _]) rfl (squares_any _ _ _ hf (by decide) _)) rfl ?_
 rintro _ w4 ⟨hh1, rfl, E1, k4⟩
 replace hb1 := hb1.keep0 k4
 replace hb2 := hb2.keep0 k4
 replace hb3 := hb3.keep0 k4
 replace hB := hB.trans k4
 replace E1 : El hh1 (fpow a 2) := el_sq (n := 1) E1 rfl
 refine ow_d (d_alloc ty26) rfl ?_
 rintro _ w5 ⟨b4, rfl, eb4, hb4, k5, z4⟩
 have ge_b4 : w.heap.size ≤ b4 := by have := hB.size; omega
 have ne_b1_b4 : b1 ≠ b4 := by have := hb1.lt; omega
 have ne_b2_b4 : b2 ≠ b4 := by have := hb2.lt; omega
 have ne_b3_b4 : b3 ≠ b4 := by have := hb3.lt; omega
 replace hb1 := hb1.keep0 k5
 replace hb2 := hb2.keep0 k5
 replace hb3 := hb3.keep0 k5
 replace hB := hB.trans k5
 clear eb4 z4
 refine ow_d0 (d_sta ty26 rfl rfl rfl ivF_one hb4 rfl) ?_
 rintro _ w6 ⟨hb5, k6, z5⟩
 replace hb1 := hb1.keep k6 (fun hm => absurd (List.mem_singleton.1 hm) ne_b1_b4)
 replace hb2 := hb2.keep k6 (fun hm => absurd (List.mem_singleton.1 hm) ne_b2_b4)
 replace hb3 := hb3.keep k6 (fun hm => absurd (List.mem_singleton.1 hm) ne_b3_b4)
 replace hB := hB.new k6 (fun x hx => .inl ((List.mem_singleton.1 hx) ▸ ge_b4))
 clear z5
 replace hb5 : Bk w6 b4 _ [.int .u64 (hh1 0), .int .u64 (hh1 1), .int .u64 (hh1 2), .int .u64 (hh1 3), .int .u64 (hh1 4)] := hb5
 refine ow_nil (tw_seq ?_)
 have gs1 := hB.size
 have lt1 := hb1.lt
 have lt2 := hb2.lt
 have lt3 := hb3.lt
 have lt4 := hb5.lt
 refine tw_planA 5 [0, 2, 1, 3] [1, 3] [] [(4, 26, [.int .u64 0, .int .u64 0, .int .u64 0, .int .u64 0, .int .u64 0])] mixed [(4, _), (1, _), (2, _), (3, _)] ⟨rfl, rfl, rfl, rfl, trivial⟩ (by decide +kernel) (by decide) (by decide) ?_ (fun x hx => by cases hx) rfl (fun w7 k7 => ?_)
 · simp only [List.forall_mem_cons]; exact ⟨⟨_, _, _, _, _, _, rfl, ty26⟩, fun q hq => by cases hq⟩
 replace hb1 := hb1.keep0 k7
 replace hb2 := hb2.keep0 k7
 replace hb3 := hb3.keep0 k7
 replace hb5 := hb5.keep0 k7
 replace hB := hB.trans k7
 refine pa_g [(4, _)] rfl rfl ⟨rfl, trivial⟩ rfl (fun W' kk => g_ldab (cs' := [_, _, _, _, _]) ag26 ty26 rfl (Bk.keep0 hb5 kk) rfl rfl) ?_
 refine pa_g [(1, _)] rfl rfl ⟨rfl, trivial⟩ rfl (fun W' kk => g_ldab (cs' := [_, _, _, _, _]) ag26 ty26 rfl (Bk.keep0 hb1 kk) rfl rfl) ?_
 refine pa_d [(15, _)] rfl rfl ⟨rfl, trivial⟩ rfl (fun w9 k9 => ?_)
 replace hb1 := hb1.keep0 k9
 replace hb2 := hb2.keep0 k9
 replace hb3 := hb3.keep0 k9
 replace hb5 := hb5.keep0 k9
 replace hB := hB.trans k9
 refine (d_call (vs := [_, _]) rfl (squares_any _ _ _ E1 (by decide) _)).mono ?_
 rintro _ w8 ⟨hh2, rfl, E2, k8⟩
 refine ⟨k8, (fun x hx => by have hx : x ∈ ([] : List Nat) := hx; cases hx), ?_⟩
 replace hb1 := hb1.keep0 k8
 replace hb2 := hb2.keep0 k8
 replace hb3 := hb3.keep0 k8
 replace hb5 := hb5.keep0 k8
 replace hB := hB.trans k8
 replace E2 : El hh2 (fpow a 8) := el_sq (n := 2) E2 rfl
 refine pa_d [(16, _), (17, _)] rfl rfl ⟨rfl, rfl, trivial⟩ rfl (fun w11 k11 => ?_)
 replace hb1 := hb1.keep0 k11
 replace hb2 := hb2.keep0 k11
 replace hb3 := hb3.keep0 k11
 replace hb5 := hb5.keep0 k11
 replace hB := hB.trans k11
 refine (d_call (vs := [_, _]) rfl (mul_any _ _ _ _ E2 hf _)).mono ?_
 rintro _ w10 ⟨hh3, rfl, E3, k10⟩
 refine ⟨k10, (fun x hx => by have hx : x ∈ ([] : List Nat) := hx; cases hx), ?_⟩
 replace hb1 := hb1.keep0 k10
 replace hb2 := hb2.keep0 k10
 replace hb3 := hb3.keep0 k10
 replace hb5 := hb5.keep0 k10
 replace hB := hB.trans k10
 replace E3 : El hh3 (fpow a 9) := el_mul E3 rfl
 refine pa_nil (fun w12 k12 => ?_)
 replace hb1 := hb1.keep0 k12
 replace hb2 := hb2.keep0 k12
 replace hb3 := hb3.keep0 k12
 replace hb5 := hb5.keep0 k12
 replace hB := hB.trans k12
 intro b5 eb5 lb1 hb6 ds1 sp1
 have ge_b5 : w.heap.size ≤ b5 := Nat.le_trans gs1 eb5
 have ne_b1_b5 : b1 ≠ b5 := Nat.ne_of_lt (Nat.lt_of_lt_of_le lt1 eb5)
 have ne_b2_b5 : b2 ≠ b5 := Nat.ne_of_lt (Nat.lt_of_lt_of_le lt2 eb5)
 have ne_b3_b5 : b3 ≠ b5 := Nat.ne_of_lt (Nat.lt_of_lt_of_le lt3 eb5)
 have ne_b4_b5 : b4 ≠ b5 := Nat.ne_of_lt (Nat.lt_of_lt_of_le lt4 eb5)
 refine fina_nil ?_
 refine ow_d0 (d_sta ty26 rfl rfl rfl ivF_one hb6 rfl) ?_
 rintro _ w13 ⟨hb7, k13, z6⟩
 replace hb1 := hb1.keep k13 (fun hm => absurd (List.mem_singleton.1 hm) ne_b1_b5)
 replace hb2 := hb2.keep k13 (fun hm => absurd (List.mem_singleton.1 hm) ne_b2_b5)
 replace hb3 := hb3.keep k13 (fun hm => absurd (List.mem_singleton.1 hm) ne_b3_b5)
 replace hb5 := hb5.keep k13 (fun hm => absurd (List.mem_singleton.1 hm) ne_b4_b5)
 replace hB := hB.new k13 (fun x hx => .inl ((List.mem_singleton.1 hx) ▸ ge_b5))
 clear z6
 replace hb7 : Bk w13 b5 _ [.int .u64 (hh3 0), .int .u64 (hh3 1), .int .u64 (hh3 2), .int .u64 (hh3 3), .int .u64 (hh3 4)] := hb7
 refine ow_nil (tw_seq (tw_region (ow_g (g_ldab (cs' := [_, _, _, _, _]) ag26 ty26 rfl hb7 rfl rfl) rfl ?_)))
 refine ow_g (g_ldab (cs' := [_, _, _, _, _]) ag26 ty26 rfl hb5 rfl rfl) rfl ?_
 refine ow_d (d_call (vs := [_, _]) rfl (mul_any _ _ _ _ E3 E1 _)) rfl ?_
 rintro _ w14 ⟨hh4, rfl, E4, k14⟩
 replace hb2 := hb2.keep0 k14
 replace hb3 := hb3.keep0 k14
 replace hb5 := hb5.keep0 k14
 replace hb7 := hb7.keep0 k14
 replace hB := hB.trans k14
 replace E4 : El hh4 (fpow a 11) := el_mul E4 rfl
 refine ow_d0 (d_sta ty26 rfl rfl rfl ivF_one hb3 rfl) ?_
 rintro _ w15 ⟨hb8, k15, z7⟩
 replace hb2 := hb2.keep k15 (fun hm => absurd (List.mem_singleton.1 hm) ne_b2_b3)
 replace hb5 := hb5.keep k15 (fun hm => absurd (List.mem_singleton.1 hm) (Ne.symm ne_b3_b4))
 replace hb7 := hb7.keep k15 (fun hm => absurd (List.mem_singleton.1 hm) (Ne.symm ne_b3_b5))
 replace hB := hB.new k15 (fun x hx => .inl ((List.mem_singleton.1 hx) ▸ ge_b3))
 clear z7
 replace hb8 : Bk w15 b3 _ [.int .u64 (hh4 0), .int .u64 (hh4 1), .int .u64 (hh4 2), .int .u64 (hh4 3), .int .u64 (hh4 4)] := hb8
 refine ow_nil (tw_seq ?_)
 have gs2 := hB.size
 have lt5 := hb2.lt
 have lt6 := hb7.lt
 have lt7 := hb8.lt
 refine tw_planA 5 [0, 2, 1, 3] [1, 3] [] [(4, 26, [.int .u64 0, .int .u64 0, .int .u64 0, .int .u64 0, .int .u64 0])] mixed [(3, _), (5, _), (2, _)] ⟨rfl, rfl, rfl, trivial⟩ (by decide +kernel) (by decide) (by decide) ?_ (fun x hx => by cases hx) rfl (fun w16 k16 => ?_)
 · simp only [List.forall_mem_cons]; exact ⟨⟨_, _, _, _, _, _, rfl, ty26⟩, fun q hq => by cases hq⟩
 replace hb2 := hb2.keep0 k16
 replace hb7 := hb7.keep0 k16
 replace hb8 := hb8.keep0 k16
 replace hB := hB.trans k16
 refine pa_g [(3, _)] rfl rfl ⟨rfl, trivial⟩ rfl (fun W' kk => g_ldab (cs' := [_, _, _, _, _]) ag26 ty26 rfl (Bk.keep0 hb8 kk) rfl rfl) ?_
 refine pa_g [(5, _)] rfl rfl ⟨rfl, trivial⟩ rfl (fun W' kk => g_ldab (cs' := [_, _, _, _, _]) ag26 ty26 rfl (Bk.keep0 hb7 kk) rfl rfl) ?_
 refine pa_d [(22, _)] rfl rfl ⟨rfl, trivial⟩ rfl (fun w18 k18 => ?_)
 replace hb2 := hb2.keep0 k18
 replace hb7 := hb7.keep0 k18
 replace hb8 := hb8.keep0 k18
 replace hB := hB.trans k18
 refine (d_call (vs := [_, _]) rfl (squares_any _ _ _ E4 (by decide) _)).mono ?_
 rintro _ w17 ⟨hh5, rfl, E5, k17⟩
 refine ⟨k17, (fun x hx => by have hx : x ∈ ([] : List Nat) := hx; cases hx), ?_⟩
 replace hb2 := hb2.keep0 k17
 replace hb7 := hb7.keep0 k17
 replace hb8 := hb8.keep0 k17
 replace hB := hB.trans k17
 replace E5 : El hh5 (fpow a 22) := el_sq (n := 1) E5 rfl
 refine pa_d [(23, _), (24, _)] rfl rfl ⟨rfl, rfl, trivial⟩ rfl (fun w20 k20 => ?_)
 replace hb2 := hb2.keep0 k20
 replace hb7 := hb7.keep0 k20
 replace hb8 := hb8.keep0 k20
 replace hB := hB.trans k20
 refine (d_call (vs := [_, _]) rfl (mul_any _ _ _ _ E5 E3 _)).mono ?_
 rintro _ w19 ⟨hh6, rfl, E6, k19⟩
 refine ⟨k19, (fun x hx => by have hx : x ∈ ([] : List Nat) := hx; cases hx), ?_⟩
 replace hb2 := hb2.keep0 k19
 replace hb7 := hb7.keep0 k19
 replace hb8 := hb8.keep0 k19
 replace hB := hB.trans k19
 replace E6 : El hh6 (fpow a 31) := el_mul E6 rfl
 refine pa_nil (fun w21 k21 => ?_)
 replace hb2 := hb2.keep0 k21
 replace hb7 := hb7.keep0 k21
 replace hb8 := hb8.keep0 k21
 replace hB := hB.trans k21
 intro b6 eb6 lb2 hb9 ds2 sp2
 have ge_b6 : w.heap.size ≤ b6 := Nat.le_trans gs2 eb6
 have ne_b2_b6 : b2 ≠ b6 := Nat.ne_of_lt (Nat.lt_of_lt_of_le lt5 eb6)
 have ne_b5_b6 : b5 ≠ b6 := Nat.ne_of_lt (Nat.lt_of_lt_of_le lt6 eb6)
 have ne_b3_b6 : b3 ≠ b6 := Nat.ne_of_lt (Nat.lt_of_lt_of_le lt7 eb6)
 refine fina_nil ?_
 refine ow_d0 (d_sta ty26 rfl rfl rfl ivF_one hb9 rfl) ?_
 rintro _ w22 ⟨hb10, k22, z8⟩
 replace hb2 := hb2.keep k22 (fun hm => absurd (List.mem_singleton.1 hm) ne_b2_b6)
 replace hb7 := hb7.keep k22 (fun hm => absurd (List.mem_singleton.1 hm) ne_b5_b6)
 replace hb8 := hb8.keep k22 (fun hm => absurd (List.mem_singleton.1 hm) ne_b3_b6)
 replace hB := hB.new k22 (fun x hx => .inl ((List.mem_singleton.1 hx) ▸ ge_b6))
 clear z8
 replace hb10 : Bk w22 b6 _ [.int .u64 (hh6 0), .int .u64 (hh6 1), .int .u64 (hh6 2), .int .u64 (hh6 3), .int .u64 (hh6 4)] := hb10
 refine ow_nil (tw_seq ?_)
 have gs3 := hB.size
 have lt8 := hb2.lt
 have lt9 := hb8.lt
 have lt10 := hb10.lt
 refine tw_planA 5 [0, 2, 1, 3] [1, 3] [] [(4, 26, [.int .u64 0, .int .u64 0, .int .u64 0, .int .u64 0, .int .u64 0])] mixed [(6, _), (3, _), (2, _)] ⟨rfl, rfl, rfl, trivial⟩ (by decide +kernel) (by decide) (by decide) ?_ (fun x hx => by cases hx) rfl (fun w23 k23 => ?_)
 · simp only [List.forall_mem_cons]; exact ⟨⟨_, _, _, _, _, _, rfl, ty26⟩, fun q hq => by cases hq⟩
 replace hb2 := hb2.keep0 k23
 replace hb8 := hb8.keep0 k23
 replace hb10 := hb10.keep0 k23
 replace hB := hB.trans k23
 refine pa_g [(6, _)] rfl rfl ⟨rfl, trivial⟩ rfl (fun W' kk => g_ldab (cs' := [_, _, _, _, _]) ag26 ty26 rfl (Bk.keep0 hb10 kk) rfl rfl) ?_
 refine pa_g [(6, _)] rfl rfl ⟨rfl, trivial⟩ rfl (fun W' kk => g_ldab (cs' := [_, _, _, _, _]) ag26 ty26 rfl (Bk.keep0 hb10 kk) rfl rfl) ?_
 refine pa_d [(26, _)] rfl rfl ⟨rfl, trivial⟩ rfl (fun w25 k25 => ?_)
 replace hb2 := hb2.keep0 k25
 replace hb8 := hb8.keep0 k25
 replace hb10 := hb10.keep0 k25
 replace hB := hB.trans k25
 refine (d_call (vs := [_, _]) rfl (squares_any _ _ _ E6 (by decide) _)).mono ?_
 rintro _ w24 ⟨hh7, rfl, E7, k24⟩
 refine ⟨k24, (fun x hx => by have hx : x ∈ ([] : List Nat) := hx; cases hx), ?_⟩
 replace hb2 := hb2.keep0 k24
 replace hb8 := hb8.keep0 k24
 replace hb10 := hb10.keep0 k24
 replace hB := hB.trans k24
 replace E7 : El hh7 (fpow a 992) := el_sq (n := 5) E7 rfl
 refine pa_d [(27, _), (28, _)] rfl rfl ⟨rfl, rfl, trivial⟩ rfl (fun w27 k27 => ?_)
 replace hb2 := hb2.keep0 k27
 replace hb8 := hb8.keep0 k27
 replace hb10 := hb10.keep0 k27
 replace hB := hB.trans k27
 refine (d_call (vs := [_, _]) rfl (mul_any _ _ _ _ E7 E6 _)).mono ?_
 rintro _ w26 ⟨hh8, rfl, E8, k26⟩
 refine ⟨k26, (fun x hx => by have hx : x ∈ ([] : List Nat) := hx; cases hx), ?_⟩
 replace hb2 := hb2.keep0 k26
 replace hb8 := hb8.keep0 k26
 replace hb10 := hb10.keep0 k26
 replace hB := hB.trans k26
 replace E8 : El hh8 (fpow a 1023) := el_mul E8 rfl
 refine pa_nil (fun w28 k28 => ?_)
 replace hb2 := hb2.keep0 k28
 replace hb8 := hb8.keep0 k28
 replace hb10 := hb10.keep0 k28
 replace hB := hB.trans k28
 intro b7 eb7 lb3 hb11 ds3 sp3
 have ge_b7 : w.heap.size ≤ b7 := Nat.le_trans gs3 eb7
 have ne_b2_b7 : b2 ≠ b7 := Nat.ne_of_lt (Nat.lt_of_lt_of_le lt8 eb7)
 have ne_b3_b7 : b3 ≠ b7 := Nat.ne_of_lt (Nat.lt_of_lt_of_le lt9 eb7)
 have ne_b6_b7 : b6 ≠ b7 := Nat.ne_of_lt (Nat.lt_of_lt_of_le lt10 eb7)
 refine fina_nil ?_
 refine ow_d0 (d_sta ty26 rfl rfl rfl ivF_one hb11 rfl) ?_
 rintro _ w29 ⟨hb12, k29, z9⟩
 replace hb2 := hb2.keep k29 (fun hm => absurd (List.mem_singleton.1 hm) ne_b2_b7)
 replace hb8 := hb8.keep k29 (fun hm => absurd (List.mem_singleton.1 hm) ne_b3_b7)
 replace hb10 := hb10.keep k29 (fun hm => absurd (List.mem_singleton.1 hm) ne_b6_b7)
 replace hB := hB.new k29 (fun x hx => .inl ((List.mem_singleton.1 hx) ▸ ge_b7))
 clear z9
 replace hb12 : Bk w29 b7 _ [.int .u64 (hh8 0), .int .u64 (hh8 1), .int .u64 (hh8 2), .int .u64 (hh8 3), .int .u64 (hh8 4)] := hb12
 refine ow_nil (tw_seq ?_)
 have gs4 := hB.size
 have lt11 := hb2.lt
 have lt12 := hb8.lt
 have lt13 := hb12.lt
 refine tw_planA 5 [0, 2, 1, 3] [1, 3] [] [(4, 26, [.int .u64 0, .int .u64 0, .int .u64 0, .int .u64 0, .int .u64 0])] mixed [(7, _), (3, _), (2, _)] ⟨rfl, rfl, rfl, trivial⟩ (by decide +kernel) (by decide) (by decide) ?_ (fun x hx => by cases hx) rfl (fun w30 k30 => ?_)
 · simp only [List.forall_mem_cons]; exact ⟨⟨_, _, _, _, _, _, rfl, ty26⟩, fun q hq => by cases hq⟩
 replace hb2 := hb2.keep0 k30
 replace hb8 := hb8.keep0 k30
 replace hb12 := hb12.keep0 k30
 replace hB := hB.trans k30
 refine pa_g [(7, _)] rfl rfl ⟨rfl, trivial⟩ rfl (fun W' kk => g_ldab (cs' := [_, _, _, _, _]) ag26 ty26 rfl (Bk.keep0 hb12 kk) rfl rfl) ?_
 refine pa_g [(7, _)] rfl rfl ⟨rfl, trivial⟩ rfl (fun W' kk => g_ldab (cs' := [_, _, _, _, _]) ag26 ty26 rfl (Bk.keep0 hb12 kk) rfl rfl) ?_
 refine pa_d [(30, _)] rfl rfl ⟨rfl, trivial⟩ rfl (fun w32 k32 => ?_)
 replace hb2 := hb2.keep0 k32
 replace hb8 := hb8.keep0 k32
 replace hb12 := hb12.keep0 k32
 replace hB := hB.trans k32
 refine (d_call (vs := [_, _]) rfl (squares_any _ _ _ E8 (by decide) _)).mono ?_
 rintro _ w31 ⟨hh9, rfl, E9, k31⟩
 refine ⟨k31, (fun x hx => by have hx : x ∈ ([] : List Nat) := hx; cases hx), ?_⟩
 replace hb2 := hb2.keep0 k31
 replace hb8 := hb8.keep0 k31
 replace hb12 := hb12.keep0 k31
 replace hB := hB.trans k31
 replace E9 : El hh9 (fpow a 1047552) := el_sq (n := 10) E9 rfl
 refine pa_d [(31, _), (32, _)] rfl rfl ⟨rfl, rfl, trivial⟩ rfl (fun w34 k34 => ?_)
 replace hb2 := hb2.keep0 k34
 replace hb8 := hb8.keep0 k34
 replace hb12 := hb12.keep0 k34
 replace hB := hB.trans k34
 refine (d_call (vs := [_, _]) rfl (mul_any _ _ _ _ E9 E8 _)).mono ?_
 rintro _ w33 ⟨hh10, rfl, E10, k33⟩
 refine ⟨k33, (fun x hx => by have hx : x ∈ ([] : List Nat) := hx; cases hx), ?_⟩
 replace hb2 := hb2.keep0 k33
 replace hb8 := hb8.keep0 k33
 replace hb12 := hb12.keep0 k33
 replace hB := hB.trans k33
 replace E10 : El hh10 (fpow a 1048575) := el_mul E10 rfl
 refine pa_nil (fun w35 k35 => ?_)
 replace hb2 := hb2.keep0 k35
 replace hb8 := hb8.keep0 k35
 replace hb12 := hb12.keep0 k35
 replace hB := hB.trans k35
 intro b8 eb8 lb4 hb13 ds4 sp4
 have ge_b8 : w.heap.size ≤ b8 := Nat.le_trans gs4 eb8
 have ne_b2_b8 : b2 ≠ b8 := Nat.ne_of_lt (Nat.lt_of_lt_of_le lt11 eb8)
 have ne_b3_b8 : b3 ≠ b8 := Nat.ne_of_lt (Nat.lt_of_lt_of_le lt12 eb8)
 have ne_b7_b8 : b7 ≠ b8 := Nat.ne_of_lt (Nat.lt_of_lt_of_le lt13 eb8)
 refine fina_nil ?_
 refine ow_d0 (d_sta ty26 rfl rfl rfl ivF_one hb13 rfl) ?_
 rintro _ w36 ⟨hb14, k36, z10⟩
 replace hb2 := hb2.keep k36 (fun hm => absurd (List.mem_singleton.1 hm) ne_b2_b8)
 replace hb8 := hb8.keep k36 (fun hm => absurd (List.mem_singleton.1 hm) ne_b3_b8)
 replace hb12 := hb12.keep k36 (fun hm => absurd (List.mem_singleton.1 hm) ne_b7_b8)
 replace hB := hB.new k36 (fun x hx => .inl ((List.mem_singleton.1 hx) ▸ ge_b8))
 clear z10
 replace hb14 : Bk w36 b8 _ [.int .u64 (hh10 0), .int .u64 (hh10 1), .int .u64 (hh10 2), .int .u64 (hh10 3), .int .u64 (hh10 4)] := hb14
 refine ow_nil (tw_seq ?_)
 have gs5 := hB.size
 have lt14 := hb2.lt
 have lt15 := hb8.lt
 have lt16 := hb12.lt
 have lt17 := hb14.lt
 refine tw_planA 5 [0, 2, 1, 3] [1, 3] [] [(4, 26, [.int .u64 0, .int .u64 0, .int .u64 0, .int .u64 0, .int .u64 0])] mixed [(8, _), (7, _), (3, _), (2, _)] ⟨rfl, rfl, rfl, rfl, trivial⟩ (by decide +kernel) (by decide) (by decide) ?_ (fun x hx => by cases hx) rfl (fun w37 k37 => ?_)
 · simp only [List.forall_mem_cons]; exact ⟨⟨_, _, _, _, _, _, rfl, ty26⟩, fun q hq => by cases hq⟩
 replace hb2 := hb2.keep0 k37
 replace hb8 := hb8.keep0 k37
 replace hb12 := hb12.keep0 k37
 replace hb14 := hb14.keep0 k37
 replace hB := hB.trans k37
 refine pa_g [(8, _)] rfl rfl ⟨rfl, trivial⟩ rfl (fun W' kk => g_ldab (cs' := [_, _, _, _, _]) ag26 ty26 rfl (Bk.keep0 hb14 kk) rfl rfl) ?_
 refine pa_g [(8, _)] rfl rfl ⟨rfl, trivial⟩ rfl (fun W' kk => g_ldab (cs' := [_, _, _, _, _]) ag26 ty26 rfl (Bk.keep0 hb14 kk) rfl rfl) ?_
 refine pa_d [(34, _)] rfl rfl ⟨rfl, trivial⟩ rfl (fun w39 k39 => ?_)
 replace hb2 := hb2.keep0 k39
 replace hb8 := hb8.keep0 k39
 replace hb12 := hb12.keep0 k39
 replace hb14 := hb14.keep0 k39
 replace hB := hB.trans k39
 refine (d_call (vs := [_, _]) rfl (squares_any _ _ _ E10 (by decide) _)).mono ?_
 rintro _ w38 ⟨hh11, rfl, E11, k38⟩
 refine ⟨k38, (fun x hx => by have hx : x ∈ ([] : List Nat) := hx; cases hx), ?_⟩
 replace hb2 := hb2.keep0 k38
 replace hb8 := hb8.keep0 k38
 replace hb12 := hb12.keep0 k38
 replace hb14 := hb14.keep0 k38
 replace hB := hB.trans k38
 replace E11 : El hh11 (fpow a 1099510579200) := el_sq (n := 20) E11 rfl
 refine pa_d [(35, _), (36, _)] rfl rfl ⟨rfl, rfl, trivial⟩ rfl (fun w41 k41 => ?_)
 replace hb2 := hb2.keep0 k41
 replace hb8 := hb8.keep0 k41
 replace hb12 := hb12.keep0 k41
 replace hb14 := hb14.keep0 k41
 replace hB := hB.trans k41
 refine (d_call (vs := [_, _]) rfl (mul_any _ _ _ _ E11 E10 _)).mono ?_
 rintro _ w40 ⟨hh12, rfl, E12, k40⟩
 refine ⟨k40, (fun x hx => by have hx : x ∈ ([] : List Nat) := hx; cases hx), ?_⟩
 replace hb2 := hb2.keep0 k40
 replace hb8 := hb8.keep0 k40
 replace hb12 := hb12.keep0 k40
 replace hb14 := hb14.keep0 k40
 replace hB := hB.trans k40
 replace E12 : El hh12 (fpow a 1099511627775) := el_mul E12 rfl
 refine pa_nil (fun w42 k42 => ?_)
 replace hb2 := hb2.keep0 k42
 replace hb8 := hb8.keep0 k42
 replace hb12 := hb12.keep0 k42
 replace hb14 := hb14.keep0 k42
 replace hB := hB.trans k42
 intro b9 eb9 lb5 hb15 ds5 sp5
 have ge_b9 : w.heap.size ≤ b9 := Nat.le_trans gs5 eb9
 have ne_b2_b9 : b2 ≠ b9 := Nat.ne_of_lt (Nat.lt_of_lt_of_le lt14 eb9)
 have ne_b3_b9 : b3 ≠ b9 := Nat.ne_of_lt (Nat.lt_of_lt_of_le lt15 eb9)
 have ne_b7_b9 : b7 ≠ b9 := Nat.ne_of_lt (Nat.lt_of_lt_of_le lt16 eb9)
 have ne_b8_b9 : b8 ≠ b9 := Nat.ne_of_lt (Nat.lt_of_lt_of_le lt17 eb9)
 refine fina_nil ?_
 refine ow_d0 (d_sta ty26 rfl rfl rfl ivF_one hb15 rfl) ?_
 rintro _ w43 ⟨hb16, k43, z11⟩
 replace hb2 := hb2.keep k43 (fun hm => absurd (List.mem_singleton.1 hm) ne_b2_b9)
 replace hb8 := hb8.keep k43 (fun hm => absurd (List.mem_singleton.1 hm) ne_b3_b9)
 replace hb12 := hb12.keep k43 (fun hm => absurd (List.mem_singleton.1 hm) ne_b7_b9)
 replace hb14 := hb14.keep k43 (fun hm => absurd (List.mem_singleton.1 hm) ne_b8_b9)
 replace hB := hB.new k43 (fun x hx => .inl ((List.mem_singleton.1 hx) ▸ ge_b9))
 clear z11
 replace hb16 : Bk w43 b9 _ [.int .u64 (hh12 0), .int .u64 (hh12 1), .int .u64 (hh12 2), .int .u64 (hh12 3), .int .u64 (hh12 4)] := hb16
 refine ow_nil (tw_seq ?_)
 have gs6 := hB.size
 have lt18 := hb2.lt
 have lt19 := hb8.lt
 have lt20 := hb12.lt
 have lt21 := hb16.lt
 refine tw_planA 5 [0, 2, 1, 3] [1, 3] [] [(4, 26, [.int .u64 0, .int .u64 0, .int .u64 0, .int .u64 0, .int .u64 0])] mixed [(9, _), (7, _), (3, _), (2, _)] ⟨rfl, rfl, rfl, rfl, trivial⟩ (by decide +kernel) (by decide) (by decide) ?_ (fun x hx => by cases hx) rfl (fun w44 k44 => ?_)
 · simp only [List.forall_mem_cons]; exact ⟨⟨_, _, _, _, _, _, rfl, ty26⟩, fun q hq => by cases hq⟩
 replace hb2 := hb2.keep0 k44
 replace hb8 := hb8.keep0 k44
 replace hb12 := hb12.keep0 k44
 replace hb16 := hb16.keep0 k44
 replace hB := hB.trans k44
 refine pa_g [(9, _)] rfl rfl ⟨rfl, trivial⟩ rfl (fun W' kk => g_ldab (cs' := [_, _, _, _, _]) ag26 ty26 rfl (Bk.keep0 hb16 kk) rfl rfl) ?_
 refine pa_g [(7, _)] rfl rfl ⟨rfl, trivial⟩ rfl (fun W' kk => g_ldab (cs' := [_, _, _, _, _]) ag26 ty26 rfl (Bk.keep0 hb12 kk) rfl rfl) ?_
 refine pa_d [(38, _)] rfl rfl ⟨rfl, trivial⟩ rfl (fun w46 k46 => ?_)
 replace hb2 := hb2.keep0 k46
 replace hb8 := hb8.keep0 k46
 replace hb12 := hb12.keep0 k46
 replace hb16 := hb16.keep0 k46
 replace hB := hB.trans k46
 refine (d_call (vs := [_, _]) rfl (squares_any _ _ _ E12 (by decide) _)).mono ?_
 rintro _ w45 ⟨hh13, rfl, E13, k45⟩
 refine ⟨k45, (fun x hx => by have hx : x ∈ ([] : List Nat) := hx; cases hx), ?_⟩
 replace hb2 := hb2.keep0 k45
 replace hb8 := hb8.keep0 k45
 replace hb12 := hb12.keep0 k45
 replace hb16 := hb16.keep0 k45
 replace hB := hB.trans k45
 replace E13 : El hh13 (fpow a 1125899906841600) := el_sq (n := 10) E13 rfl
 refine pa_d [(39, _), (40, _)] rfl rfl ⟨rfl, rfl, trivial⟩ rfl (fun w48 k48 => ?_)
 replace hb2 := hb2.keep0 k48
 replace hb8 := hb8.keep0 k48
 replace hb12 := hb12.keep0 k48
 replace hb16 := hb16.keep0 k48
 replace hB := hB.trans k48
 refine (d_call (vs := [_, _]) rfl (mul_any _ _ _ _ E13 E8 _)).mono ?_
 rintro _ w47 ⟨hh14, rfl, E14, k47⟩
 refine ⟨k47, (fun x hx => by have hx : x ∈ ([] : List Nat) := hx; cases hx), ?_⟩
 replace hb2 := hb2.keep0 k47
 replace hb8 := hb8.keep0 k47
 replace hb12 := hb12.keep0 k47
 replace hb16 := hb16.keep0 k47
 replace hB := hB.trans k47
 replace E14 : El hh14 (fpow a 1125899906842623) := el_mul E14 rfl
 refine pa_nil (fun w49 k49 => ?_)
 replace hb2 := hb2.keep0 k49
 replace hb8 := hb8.keep0 k49
 replace hb12 := hb12.keep0 k49
 replace hb16 := hb16.keep0 k49
 replace hB := hB.trans k49
 intro b10 eb10 lb6 hb17 ds6 sp6
 have ge_b10 : w.heap.size ≤ b10 := Nat.le_trans gs6 eb10
 have ne_b2_b10 : b2 ≠ b10 := Nat.ne_of_lt (Nat.lt_of_lt_of_le lt18 eb10)
 have ne_b3_b10 : b3 ≠ b10 := Nat.ne_of_lt (Nat.lt_of_lt_of_le lt19 eb10)
 have ne_b7_b10 : b7 ≠ b10 := Nat.ne_of_lt (Nat.lt_of_lt_of_le lt20 eb10)
 have ne_b9_b10 : b9 ≠ b10 := Nat.ne_of_lt (Nat.lt_of_lt_of_le lt21 eb10)
 refine fina_nil ?_
 refine ow_d0 (d_sta ty26 rfl rfl rfl ivF_one hb17 rfl) ?_
 rintro _ w50 ⟨hb18, k50, z12⟩
 replace hb2 := hb2.keep k50 (fun hm => absurd (List.mem_singleton.1 hm) ne_b2_b10)
 replace hb8 := hb8.keep k50 (fun hm => absurd (List.mem_singleton.1 hm) ne_b3_b10)
 replace hb12 := hb12.keep k50 (fun hm => absurd (List.mem_singleton.1 hm) ne_b7_b10)
 replace hb16 := hb16.keep k50 (fun hm => absurd (List.mem_singleton.1 hm) ne_b9_b10)
 replace hB := hB.new k50 (fun x hx => .inl ((List.mem_singleton.1 hx) ▸ ge_b10))
 clear z12
 replace hb18 : Bk w50 b10 _ [.int .u64 (hh14 0), .int .u64 (hh14 1), .int .u64 (hh14 2), .int .u64 (hh14 3), .int .u64 (hh14 4)] := hb18
 refine ow_nil (tw_seq ?_)
 have gs7 := hB.size
 have lt22 := hb2.lt
 have lt23 := hb8.lt
 have lt24 := hb18.lt
 refine tw_planA 5 [0, 2, 1, 3] [1, 3] [] [(4, 26, [.int .u64 0, .int .u64 0, .int .u64 0, .int .u64 0, .int .u64 0])] mixed [(10, _), (3, _), (2, _)] ⟨rfl, rfl, rfl, trivial⟩ (by decide +kernel) (by decide) (by decide) ?_ (fun x hx => by cases hx) rfl (fun w51 k51 => ?_)
 · simp only [List.forall_mem_cons]; exact ⟨⟨_, _, _, _, _, _, rfl, ty26⟩, fun q hq => by cases hq⟩
 replace hb2 := hb2.keep0 k51
 replace hb8 := hb8.keep0 k51
 replace hb18 := hb18.keep0 k51
 replace hB := hB.trans k51
 refine pa_g [(10, _)] rfl rfl ⟨rfl, trivial⟩ rfl (fun W' kk => g_ldab (cs' := [_, _, _, _, _]) ag26 ty26 rfl (Bk.keep0 hb18 kk) rfl rfl) ?_
 refine pa_g [(10, _)] rfl rfl ⟨rfl, trivial⟩ rfl (fun W' kk => g_ldab (cs' := [_, _, _, _, _]) ag26 ty26 rfl (Bk.keep0 hb18 kk) rfl rfl) ?_
 refine pa_d [(42, _)] rfl rfl ⟨rfl, trivial⟩ rfl (fun w53 k53 => ?_)
 replace hb2 := hb2.keep0 k53
 replace hb8 := hb8.keep0 k53
 replace hb18 := hb18.keep0 k53
 replace hB := hB.trans k53
 refine (d_call (vs := [_, _]) rfl (squares_any _ _ _ E14 (by decide) _)).mono ?_
 rintro _ w52 ⟨hh15, rfl, E15, k52⟩
 refine ⟨k52, (fun x hx => by have hx : x ∈ ([] : List Nat) := hx; cases hx), ?_⟩
 replace hb2 := hb2.keep0 k52
 replace hb8 := hb8.keep0 k52
 replace hb18 := hb18.keep0 k52
 replace hB := hB.trans k52
 replace E15 : El hh15 (fpow a 1267650600228228275596796362752) := el_sq (n := 50) E15 rfl
 refine pa_d [(43, _), (44, _)] rfl rfl ⟨rfl, rfl, trivial⟩ rfl (fun w55 k55 => ?_)
 replace hb2 := hb2.keep0 k55
 replace hb8 := hb8.keep0 k55
 replace hb18 := hb18.keep0 k55
 replace hB := hB.trans k55
 refine (d_call (vs := [_, _]) rfl (mul_any _ _ _ _ E15 E14 _)).mono ?_
 rintro _ w54 ⟨hh16, rfl, E16, k54⟩
 refine ⟨k54, (fun x hx => by have hx : x ∈ ([] : List Nat) := hx; cases hx), ?_⟩
 replace hb2 := hb2.keep0 k54
 replace hb8 := hb8.keep0 k54
 replace hb18 := hb18.keep0 k54
 replace hB := hB.trans k54
 replace E16 : El hh16 (fpow a 1267650600228229401496703205375) := el_mul E16 rfl
 refine pa_nil (fun w56 k56 => ?_)
 replace hb2 := hb2.keep0 k56
 replace hb8 := hb8.keep0 k56
 replace hb18 := hb18.keep0 k56
 replace hB := hB.trans k56
 intro b11 eb11 lb7 hb19 ds7 sp7
 have ge_b11 : w.heap.size ≤ b11 := Nat.le_trans gs7 eb11
 have ne_b2_b11 : b2 ≠ b11 := Nat.ne_of_lt (Nat.lt_of_lt_of_le lt22 eb11)
 have ne_b3_b11 : b3 ≠ b11 := Nat.ne_of_lt (Nat.lt_of_lt_of_le lt23 eb11)
 have ne_b10_b11 : b10 ≠ b11 := Nat.ne_of_lt (Nat.lt_of_lt_of_le lt24 eb11)
 refine fina_nil ?_
 refine ow_d0 (d_sta ty26 rfl rfl rfl ivF_one hb19 rfl) ?_
 rintro _ w57 ⟨hb20, k57, z13⟩
 replace hb2 := hb2.keep k57 (fun hm => absurd (List.mem_singleton.1 hm) ne_b2_b11)
 replace hb8 := hb8.keep k57 (fun hm => absurd (List.mem_singleton.1 hm) ne_b3_b11)
 replace hb18 := hb18.keep k57 (fun hm => absurd (List.mem_singleton.1 hm) ne_b10_b11)
 replace hB := hB.new k57 (fun x hx => .inl ((List.mem_singleton.1 hx) ▸ ge_b11))
 clear z13
 replace hb20 : Bk w57 b11 _ [.int .u64 (hh16 0), .int .u64 (hh16 1), .int .u64 (hh16 2), .int .u64 (hh16 3), .int .u64 (hh16 4)] := hb20
 refine ow_nil (tw_seq ?_)
 have gs8 := hB.size
 have lt25 := hb2.lt
 have lt26 := hb8.lt
 have lt27 := hb18.lt
 have lt28 := hb20.lt
 refine tw_planA 5 [0, 2, 1, 3] [1, 3] [] [(4, 26, [.int .u64 0, .int .u64 0, .int .u64 0, .int .u64 0, .int .u64 0])] mixed [(11, _), (10, _), (3, _), (2, _)] ⟨rfl, rfl, rfl, rfl, trivial⟩ (by decide +kernel) (by decide) (by decide) ?_ (fun x hx => by cases hx) rfl (fun w58 k58 => ?_)
 · simp only [List.forall_mem_cons]; exact ⟨⟨_, _, _, _, _, _, rfl, ty26⟩, fun q hq => by cases hq⟩
 replace hb2 := hb2.keep0 k58
 replace hb8 := hb8.keep0 k58
 replace hb18 := hb18.keep0 k58
 replace hb20 := hb20.keep0 k58
 replace hB := hB.trans k58
 refine pa_g [(11, _)] rfl rfl ⟨rfl, trivial⟩ rfl (fun W' kk => g_ldab (cs' := [_, _, _, _, _]) ag26 ty26 rfl (Bk.keep0 hb20 kk) rfl rfl) ?_
 refine pa_g [(11, _)] rfl rfl ⟨rfl, trivial⟩ rfl (fun W' kk => g_ldab (cs' := [_, _, _, _, _]) ag26 ty26 rfl (Bk.keep0 hb20 kk) rfl rfl) ?_
 refine pa_d [(46, _)] rfl rfl ⟨rfl, trivial⟩ rfl (fun w60 k60 => ?_)
 replace hb2 := hb2.keep0 k60
 replace hb8 := hb8.keep0 k60
 replace hb18 := hb18.keep0 k60
 replace hb20 := hb20.keep0 k60
 replace hB := hB.trans k60
 refine (d_call (vs := [_, _]) rfl (squares_any _ _ _ E16 (by decide) _)).mono ?_
 rintro _ w59 ⟨hh17, rfl, E17, k59⟩
 refine ⟨k59, (fun x hx => by have hx : x ∈ ([] : List Nat) := hx; cases hx), ?_⟩
 replace hb2 := hb2.keep0 k59
 replace hb8 := hb8.keep0 k59
 replace hb18 := hb18.keep0 k59
 replace hb20 := hb20.keep0 k59
 replace hB := hB.trans k59
 replace E17 : El hh17 (fpow a 1606938044258990275541962092339894951921974764381296132096000) := el_sq (n := 100) E17 rfl
 refine pa_d [(47, _), (48, _)] rfl rfl ⟨rfl, rfl, trivial⟩ rfl (fun w62 k62 => ?_)
 replace hb2 := hb2.keep0 k62
 replace hb8 := hb8.keep0 k62
 replace hb18 := hb18.keep0 k62
 replace hb20 := hb20.keep0 k62
 replace hB := hB.trans k62
 refine (d_call (vs := [_, _]) rfl (mul_any _ _ _ _ E17 E16 _)).mono ?_
 rintro _ w61 ⟨hh18, rfl, E18, k61⟩
 refine ⟨k61, (fun x hx => by have hx : x ∈ ([] : List Nat) := hx; cases hx), ?_⟩
 replace hb2 := hb2.keep0 k61
 replace hb8 := hb8.keep0 k61
 replace hb18 := hb18.keep0 k61
 replace hb20 := hb20.keep0 k61
 replace hB := hB.trans k61
 replace E18 : El hh18 (fpow a 1606938044258990275541962092341162602522202993782792835301375) := el_mul E18 rfl
 refine pa_nil (fun w63 k63 => ?_)
 replace hb2 := hb2.keep0 k63
 replace hb8 := hb8.keep0 k63
 replace hb18 := hb18.keep0 k63
 replace hb20 := hb20.keep0 k63
 replace hB := hB.trans k63
 intro b12 eb12 lb8 hb21 ds8 sp8
 have ge_b12 : w.heap.size ≤ b12 := Nat.le_trans gs8 eb12
 have ne_b2_b12 : b2 ≠ b12 := Nat.ne_of_lt (Nat.lt_of_lt_of_le lt25 eb12)
 have ne_b3_b12 : b3 ≠ b12 := Nat.ne_of_lt (Nat.lt_of_lt_of_le lt26 eb12)
 have ne_b10_b12 : b10 ≠ b12 := Nat.ne_of_lt (Nat.lt_of_lt_of_le lt27 eb12)
 have ne_b11_b12 : b11 ≠ b12 := Nat.ne_of_lt (Nat.lt_of_lt_of_le lt28 eb12)
 refine fina_nil ?_
 refine ow_d0 (d_sta ty26 rfl rfl rfl ivF_one hb21 rfl) ?_
 rintro _ w64 ⟨hb22, k64, z14⟩
 replace hb2 := hb2.keep k64 (fun hm => absurd (List.mem_singleton.1 hm) ne_b2_b12)
 replace hb8 := hb8.keep k64 (fun hm => absurd (List.mem_singleton.1 hm) ne_b3_b12)
 replace hb18 := hb18.keep k64 (fun hm => absurd (List.mem_singleton.1 hm) ne_b10_b12)
 replace hb20 := hb20.keep k64 (fun hm => absurd (List.mem_singleton.1 hm) ne_b11_b12)
 replace hB := hB.new k64 (fun x hx => .inl ((List.mem_singleton.1 hx) ▸ ge_b12))
 clear z14
 replace hb22 : Bk w64 b12 _ [.int .u64 (hh18 0), .int .u64 (hh18 1), .int .u64 (hh18 2), .int .u64 (hh18 3), .int .u64 (hh18 4)] := hb22
 refine ow_nil (tw_seq (tw_planA 6 [0, 2, 4, 1, 3, 5] [1, 3, 5] [b2] [] mixed [(12, _), (10, _), (3, _), (2, _)] ⟨rfl, rfl, rfl, rfl, trivial⟩ (by decide +kernel) (by decide) (by decide) ?_ (fun x hx => by simp only [List.mem_cons, List.not_mem_nil, or_false] at hx; have := hb2.lt; omega) rfl (fun w65 k65 => ?_)))
 · intro q hq; cases hq
 replace hb2 := hb2.keep0 k65
 replace hb8 := hb8.keep0 k65
 replace hb18 := hb18.keep0 k65
 replace hb22 := hb22.keep0 k65
 replace hB := hB.trans k65
 refine pa_g [(12, _)] rfl rfl ⟨rfl, trivial⟩ rfl (fun W' kk => g_ldab (cs' := [_, _, _, _, _]) ag26 ty26 rfl (Bk.keep hb22 kk (by simp only [List.mem_cons, List.not_mem_nil, or_false]; first | assumption | (apply Ne.symm; assumption) | omega)) rfl rfl) ?_
 refine pa_g [(10, _)] rfl rfl ⟨rfl, trivial⟩ rfl (fun W' kk => g_ldab (cs' := [_, _, _, _, _]) ag26 ty26 rfl (Bk.keep hb18 kk (by simp only [List.mem_cons, List.not_mem_nil, or_false]; first | assumption | (apply Ne.symm; assumption) | omega)) rfl rfl) ?_
 refine pa_g [(3, _)] rfl rfl ⟨rfl, trivial⟩ rfl (fun W' kk => g_ldab (cs' := [_, _, _, _, _]) ag26 ty26 rfl (Bk.keep hb8 kk (by simp only [List.mem_cons, List.not_mem_nil, or_false]; first | assumption | (apply Ne.symm; assumption) | omega)) rfl rfl) ?_
 refine pa_d [(50, _)] rfl rfl ⟨rfl, trivial⟩ rfl (fun w67 k67 => ?_)
 replace hb2 := hb2.keep0 k67
 replace hb8 := hb8.keep0 k67
 replace hb18 := hb18.keep0 k67
 replace hb22 := hb22.keep0 k67
 replace hB := hB.trans k67
 refine (d_call (vs := [_, _]) rfl (squares_any _ _ _ E18 (by decide) _)).mono ?_
 rintro _ w66 ⟨hh19, rfl, E19, k66⟩
 refine ⟨k66.weak, (fun x hx => by have hx : x ∈ ([] : List Nat) := hx; cases hx), ?_⟩
 replace hb2 := hb2.keep0 k66
 replace hb8 := hb8.keep0 k66
 replace hb18 := hb18.keep0 k66
 replace hb22 := hb22.keep0 k66
 replace hB := hB.trans k66
 replace E19 : El hh19 (fpow a 1809251394333065553493296640760748560207343510400633813116523624223735808000) := el_sq (n := 50) E19 rfl
 refine pa_d [(51, _), (52, _)] rfl rfl ⟨rfl, rfl, trivial⟩ rfl (fun w69 k69 => ?_)
 replace hb2 := hb2.keep0 k69
 replace hb8 := hb8.keep0 k69
 replace hb18 := hb18.keep0 k69
 replace hb22 := hb22.keep0 k69
 replace hB := hB.trans k69
 refine (d_call (vs := [_, _]) rfl (mul_any _ _ _ _ E19 E14 _)).mono ?_
 rintro _ w68 ⟨hh20, rfl, E20, k68⟩
 refine ⟨k68.weak, (fun x hx => by have hx : x ∈ ([] : List Nat) := hx; cases hx), ?_⟩
 replace hb2 := hb2.keep0 k68
 replace hb8 := hb8.keep0 k68
 replace hb18 := hb18.keep0 k68
 replace hb22 := hb22.keep0 k68
 replace hB := hB.trans k68
 replace E20 : El hh20 (fpow a 1809251394333065553493296640760748560207343510400633813116524750123642650623) := el_mul E20 rfl
 refine pa_d0 [(2, _), (53, _)] rfl rfl ⟨rfl, rfl, trivial⟩ rfl (fun w70 k70 => ?_)
 replace hb2 := hb2.keep0 k70
 replace hb8 := hb8.keep0 k70
 replace hb18 := hb18.keep0 k70
 replace hb22 := hb22.keep0 k70
 replace hB := hB.trans k70
 refine (d_sta ty26 rfl rfl rfl ivF_one hb2 rfl).mono ?_
 rintro _ w71 ⟨hb23, k71, z15⟩
 refine ⟨k71, ?_⟩
 replace hb8 := hb8.keep k71 (fun hm => absurd (List.mem_singleton.1 hm) (Ne.symm ne_b2_b3))
 replace hb18 := hb18.keep k71 (fun hm => absurd (List.mem_singleton.1 hm) (Ne.symm ne_b2_b10))
 replace hb22 := hb22.keep k71 (fun hm => absurd (List.mem_singleton.1 hm) (Ne.symm ne_b2_b12))
 replace hB := hB.new k71 (fun x hx => .inl ((List.mem_singleton.1 hx) ▸ ge_b2))
 clear z15
 replace hb23 : Bk w71 b2 _ [.int .u64 (hh20 0), .int .u64 (hh20 1), .int .u64 (hh20 2), .int .u64 (hh20 3), .int .u64 (hh20 4)] := hb23
 refine pa_nil (fun w72 k72 => ?_)
 replace hb8 := hb8.keep0 k72
 replace hb18 := hb18.keep0 k72
 replace hb22 := hb22.keep0 k72
 replace hb23 := hb23.keep0 k72
 replace hB := hB.trans k72
 refine fina_nil ?_
 refine ow_d0 (d_sta ty26 rfl rfl rfl (by simp only [List.forall_mem_cons]; refine ⟨rfl, rfl, rfl, rfl, rfl, fun v hv => by cases hv⟩) hb8 rfl) ?_
 rintro _ w73 ⟨hb24, k73, z16⟩
 replace hb18 := hb18.keep k73 (fun hm => absurd (List.mem_singleton.1 hm) (Ne.symm ne_b3_b10))
 replace hb22 := hb22.keep k73 (fun hm => absurd (List.mem_singleton.1 hm) (Ne.symm ne_b3_b12))
 replace hb23 := hb23.keep k73 (fun hm => absurd (List.mem_singleton.1 hm) ne_b2_b3)
 replace hB := hB.new k73 (fun x hx => .inl ((List.mem_singleton.1 hx) ▸ ge_b3))
 clear z16
 replace hb24 : Bk w73 b3 _ [.int .u64 (hh4 0), .int .u64 (hh4 1), .int .u64 (hh4 2), .int .u64 (hh4 3), .int .u64 (hh4 4)] := hb24
 refine ow_nil (tw_retcc hfin Try.results87 rfl (run_loadAgg ag26 ty26 ‹_› rfl) rfl (run_loadAgg ag26 ty26 ‹_› rfl) ?_)
 exact ⟨hh20, hh4, rfl, E20, E4, hB⟩
set_option maxRecDepth 100000 in
theorem inv_any (f : Nat → Int) (a : Fp) (hf : El f a) (w : World) : Rets Try.prog 77 [.agg (iv .u64 5 f).toArray] w (fun v w' => ∃ h, v = .agg (iv .u64 5 h).toArray ∧ El h (inv a) ∧ Keep [] w w') := by
 have hB : Keep [] w w := Keep.refl _ _
 have hf1 := el_one hf
 refine rets_of_tw Try.func77 rfl (by decide) Try.ntmps77 rfl (fun fin _ hfin => ?_)
 refine tw_seq (tw_region (ow_d (d_box (cs := [.int .u64 (f 0), .int .u64 (f 1), .int .u64 (f 2), .int .u64 (f 3), .int .u64 (f 4)]) rfl rfl) rfl ?_))
 rintro _ w1 ⟨b1, rfl, eb1, hb1, k1, z1⟩
 have ge_b1 : w.heap.size ≤ b1 := by have := hB.size; omega
 replace hB := hB.trans k1
 clear eb1 z1
 refine ow_d (d_alloc ty26) rfl ?_
 rintro _ w2 ⟨b2, rfl, eb2, hb2, k2, z2⟩
 have ge_b2 : w.heap.size ≤ b2 := by have := hB.size; omega
 have ne_b1_b2 : b1 ≠ b2 := by have := hb1.lt; omega
 replace hb1 := hb1.keep0 k2
 replace hB := hB.trans k2
 clear eb2 z2
 refine ow_nil (tw_seq (tw_region (ow_g (g_ldab (cs' := [_, _, _, _, _]) ag26 ty26 rfl hb1 rfl rfl) rfl ?_)))
 refine ow_d (d_call (vs := [_]) rfl (ones_any _ _ hf1 _)) rfl ?_
 rintro _ w3 ⟨gg1, hh1, rfl, E1, G1, k3⟩
 replace hb1 := hb1.keep0 k3
 replace hb2 := hb2.keep0 k3
 replace hB := hB.trans k3
 refine ow_g (g_mv rfl) rfl (ow_g (g_ext (vs := [_, _]) rfl rfl) rfl ?_)
 refine ow_g (g_ext (vs := [_, _]) rfl rfl) rfl ?_
 refine ow_d (d_alloc ty26) rfl ?_
 rintro _ w4 ⟨b3, rfl, eb3, hb3, k4, z3⟩
 have ge_b3 : w.heap.size ≤ b3 := by have := hB.size; omega
 have ne_b1_b3 : b1 ≠ b3 := by have := hb1.lt; omega
 have ne_b2_b3 : b2 ≠ b3 := by have := hb2.lt; omega
 replace hb1 := hb1.keep0 k4
 replace hb2 := hb2.keep0 k4
 replace hB := hB.trans k4
 clear eb3 z3
 refine ow_d (d_alloc ty26) rfl ?_
 rintro _ w5 ⟨b4, rfl, eb4, hb4, k5, z4⟩
 have ge_b4 : w.heap.size ≤ b4 := by have := hB.size; omega
 have ne_b1_b4 : b1 ≠ b4 := by have := hb1.lt; omega
 have ne_b2_b4 : b2 ≠ b4 := by have := hb2.lt; omega
 have ne_b3_b4 : b3 ≠ b4 := by have := hb3.lt; omega
 replace hb1 := hb1.keep0 k5
 replace hb2 := hb2.keep0 k5
 replace hb3 := hb3.keep0 k5
 replace hB := hB.trans k5
 clear eb4 z4
 refine ow_d0 (d_sta ty26 rfl rfl rfl ivF_one hb3 rfl) ?_
 rintro _ w6 ⟨hb5, k6, z5⟩
 replace hb1 := hb1.keep k6 (fun hm => absurd (List.mem_singleton.1 hm) ne_b1_b3)
 replace hb2 := hb2.keep k6 (fun hm => absurd (List.mem_singleton.1 hm) ne_b2_b3)
 replace hb4 := hb4.keep k6 (fun hm => absurd (List.mem_singleton.1 hm) (Ne.symm ne_b3_b4))
 replace hB := hB.new k6 (fun x hx => .inl ((List.mem_singleton.1 hx) ▸ ge_b3))
 clear z5
 replace hb5 : Bk w6 b3 _ [.int .u64 (gg1 0), .int .u64 (gg1 1), .int .u64 (gg1 2), .int .u64 (gg1 3), .int .u64 (gg1 4)] := hb5
 refine ow_d0 (d_sta ty26 rfl rfl rfl ivF_one hb4 rfl) ?_
 rintro _ w7 ⟨hb6, k7, z6⟩
 replace hb1 := hb1.keep k7 (fun hm => absurd (List.mem_singleton.1 hm) ne_b1_b4)
 replace hb2 := hb2.keep k7 (fun hm => absurd (List.mem_singleton.1 hm) ne_b2_b4)
 replace hb5 := hb5.keep k7 (fun hm => absurd (List.mem_singleton.1 hm) ne_b3_b4)
 replace hB := hB.new k7 (fun x hx => .inl ((List.mem_singleton.1 hx) ▸ ge_b4))
 clear z6
 replace hb6 : Bk w7 b4 _ [.int .u64 (hh1 0), .int .u64 (hh1 1), .int .u64 (hh1 2), .int .u64 (hh1 3), .int .u64 (hh1 4)] := hb6
 refine ow_nil (tw_seq (tw_plan 4 [0, 2, 1, 3] [1, 3] [] mixed [(3, _), (4, _), (2, _)] ⟨rfl, rfl, rfl, trivial⟩ (by decide +kernel) rfl (fun w8 k8 => ?_)))
 replace hb2 := hb2.keep0 k8
 replace hb5 := hb5.keep0 k8
 replace hb6 := hb6.keep0 k8
 replace hB := hB.trans k8
 refine pw_g [(3, _)] rfl rfl ⟨rfl, trivial⟩ rfl (fun W' kk => g_ldab (cs' := [_, _, _, _, _]) ag26 ty26 rfl (Bk.keep0 hb5 kk) rfl rfl) ?_
 refine pw_g [(4, _)] rfl rfl ⟨rfl, trivial⟩ rfl (fun W' kk => g_ldab (cs' := [_, _, _, _, _]) ag26 ty26 rfl (Bk.keep0 hb6 kk) rfl rfl) ?_
 refine pw_d [(10, _)] rfl rfl ⟨rfl, trivial⟩ rfl (d_call (vs := [_, _]) rfl (squares_any _ _ _ E1 (by decide) _)) ?_
 rintro _ w9 ⟨hh2, rfl, E2, k9⟩
 refine ⟨k9, ?_⟩
 replace hb2 := hb2.keep0 k9
 replace hb5 := hb5.keep0 k9
 replace hb6 := hb6.keep0 k9
 replace hB := hB.trans k9
 replace E2 : El hh2 (fpow a 57896044618658097711785492504343953926634992332820282019728792003956564819936) := el_sq (n := 5) E2 rfl
 refine pw_d [(11, _), (12, _)] rfl rfl ⟨rfl, rfl, trivial⟩ rfl (d_call (vs := [_, _]) rfl (mul_any _ _ _ _ E2 G1 _)) ?_
 rintro _ w10 ⟨hh3, rfl, E3, k10⟩
 refine ⟨k10, ?_⟩
 replace hb2 := hb2.keep0 k10
 replace hb5 := hb5.keep0 k10
 replace hb6 := hb6.keep0 k10
 replace hB := hB.trans k10
 replace E3 : El hh3 (fpow a 57896044618658097711785492504343953926634992332820282019728792003956564819947) := el_mul E3 rfl
 refine pw_nil ?_
 refine ow_d0 (d_sta ty26 rfl rfl rfl ivF_one hb2 rfl) ?_
 rintro _ w11 ⟨hb7, k11, z7⟩
 replace hb5 := hb5.keep k11 (fun hm => absurd (List.mem_singleton.1 hm) (Ne.symm ne_b2_b3))
 replace hb6 := hb6.keep k11 (fun hm => absurd (List.mem_singleton.1 hm) (Ne.symm ne_b2_b4))
 replace hB := hB.new k11 (fun x hx => .inl ((List.mem_singleton.1 hx) ▸ ge_b2))
 clear z7
 replace hb7 : Bk w11 b2 _ [.int .u64 (hh3 0), .int .u64 (hh3 1), .int .u64 (hh3 2), .int .u64 (hh3 3), .int .u64 (hh3 4)] := hb7
 refine ow_nil (tw_retc hfin Try.results77 rfl (run_loadAgg ag26 ty26 ‹_› rfl)  ?_)
 exact ⟨hh3, rfl, E3, hB⟩
set_option maxRecDepth 100000 in
theorem eighth_any (f : Nat → Int) (a : Fp) (hf : El f a) (w : World) : Rets Try.prog 82 [.agg (iv .u64 5 f).toArray] w (fun v w' => ∃ h, v = .agg (iv .u64 5 h).toArray ∧ El h (fpow a 7237005577332262213973186563042994240829374041602535252466099000494570602494) ∧ Keep [] w w') := by
 have hB : Keep [] w w := Keep.refl _ _
 have hf1 := el_one hf
 refine rets_of_tw Try.func82 rfl (by decide) Try.ntmps82 rfl (fun fin _ hfin => ?_)
 refine tw_seq (tw_region (ow_d (d_box (cs := [.int .u64 (f 0), .int .u64 (f 1), .int .u64 (f 2), .int .u64 (f 3), .int .u64 (f 4)]) rfl rfl) rfl ?_))
 rintro _ w1 ⟨b1, rfl, eb1, hb1, k1, z1⟩
 have ge_b1 : w.heap.size ≤ b1 := by have := hB.size; omega
 replace hB := hB.trans k1
 clear eb1 z1
 refine ow_d (d_alloc ty26) rfl ?_
 rintro _ w2 ⟨b2, rfl, eb2, hb2, k2, z2⟩
 have ge_b2 : w.heap.size ≤ b2 := by have := hB.size; omega
 have ne_b1_b2 : b1 ≠ b2 := by have := hb1.lt; omega
 replace hb1 := hb1.keep0 k2
 replace hB := hB.trans k2
 clear eb2 z2
 refine ow_nil (tw_seq (tw_region (ow_g (g_ldab (cs' := [_, _, _, _, _]) ag26 ty26 rfl hb1 rfl rfl) rfl ?_)))
 refine ow_d (d_call (vs := [_]) rfl (ones_any _ _ hf1 _)) rfl ?_
 rintro _ w3 ⟨gg1, hh1, rfl, E1, G1, k3⟩
 replace hb1 := hb1.keep0 k3
 replace hb2 := hb2.keep0 k3
 replace hB := hB.trans k3
 refine ow_g (g_mv rfl) rfl (ow_g (g_ext (vs := [_, _]) rfl rfl) rfl ?_)
 refine ow_g (g_ext (vs := [_, _]) rfl rfl) rfl ?_
 refine ow_d (d_alloc ty26) rfl ?_
 rintro _ w4 ⟨b3, rfl, eb3, hb3, k4, z3⟩
 have ge_b3 : w.heap.size ≤ b3 := by have := hB.size; omega
 have ne_b1_b3 : b1 ≠ b3 := by have := hb1.lt; omega
 have ne_b2_b3 : b2 ≠ b3 := by have := hb2.lt; omega
 replace hb1 := hb1.keep0 k4
 replace hb2 := hb2.keep0 k4
 replace hB := hB.trans k4
 clear eb3 z3
 refine ow_d (d_alloc ty26) rfl ?_
 rintro _ w5 ⟨b4, rfl, eb4, hb4, k5, z4⟩
 have ge_b4 : w.heap.size ≤ b4 := by have := hB.size; omega
 have ne_b1_b4 : b1 ≠ b4 := by have := hb1.lt; omega
 have ne_b2_b4 : b2 ≠ b4 := by have := hb2.lt; omega
 have ne_b3_b4 : b3 ≠ b4 := by have := hb3.lt; omega
 replace hb1 := hb1.keep0 k5
 replace hb2 := hb2.keep0 k5
 replace hb3 := hb3.keep0 k5
 replace hB := hB.trans k5
 clear eb4 z4
 refine ow_d0 (d_sta ty26 rfl rfl rfl ivF_one hb3 rfl) ?_
 rintro _ w6 ⟨hb5, k6, z5⟩
 replace hb1 := hb1.keep k6 (fun hm => absurd (List.mem_singleton.1 hm) ne_b1_b3)
 replace hb2 := hb2.keep k6 (fun hm => absurd (List.mem_singleton.1 hm) ne_b2_b3)
 replace hb4 := hb4.keep k6 (fun hm => absurd (List.mem_singleton.1 hm) (Ne.symm ne_b3_b4))
 replace hB := hB.new k6 (fun x hx => .inl ((List.mem_singleton.1 hx) ▸ ge_b3))
 clear z5
 replace hb5 : Bk w6 b3 _ [.int .u64 (gg1 0), .int .u64 (gg1 1), .int .u64 (gg1 2), .int .u64 (gg1 3), .int .u64 (gg1 4)] := hb5
 refine ow_d0 (d_sta ty26 rfl rfl rfl ivF_one hb4 rfl) ?_
 rintro _ w7 ⟨hb6, k7, z6⟩
 replace hb1 := hb1.keep k7 (fun hm => absurd (List.mem_singleton.1 hm) ne_b1_b4)
 replace hb2 := hb2.keep k7 (fun hm => absurd (List.mem_singleton.1 hm) ne_b2_b4)
 replace hb5 := hb5.keep k7 (fun hm => absurd (List.mem_singleton.1 hm) ne_b3_b4)
 replace hB := hB.new k7 (fun x hx => .inl ((List.mem_singleton.1 hx) ▸ ge_b4))
 clear z6
 replace hb6 : Bk w7 b4 _ [.int .u64 (hh1 0), .int .u64 (hh1 1), .int .u64 (hh1 2), .int .u64 (hh1 3), .int .u64 (hh1 4)] := hb6
 refine ow_nil (tw_seq (tw_plan 5 [0, 2, 1, 3, 4] [1, 3, 4] [] mixed [(3, _), (1, _), (2, _)] ⟨rfl, rfl, rfl, trivial⟩ (by decide +kernel) rfl (fun w8 k8 => ?_)))
 replace hb1 := hb1.keep0 k8
 replace hb2 := hb2.keep0 k8
 replace hb5 := hb5.keep0 k8
 replace hB := hB.trans k8
 refine pw_g [(3, _)] rfl rfl ⟨rfl, trivial⟩ rfl (fun W' kk => g_ldab (cs' := [_, _, _, _, _]) ag26 ty26 rfl (Bk.keep0 hb5 kk) rfl rfl) ?_
 refine pw_g [(1, _)] rfl rfl ⟨rfl, trivial⟩ rfl (fun W' kk => g_ldab (cs' := [_, _, _, _, _]) ag26 ty26 rfl (Bk.keep0 hb1 kk) rfl rfl) ?_
 refine pw_d [(10, _)] rfl rfl ⟨rfl, trivial⟩ rfl (d_call (vs := [_, _]) rfl (squares_any _ _ _ E1 (by decide) _)) ?_
 rintro _ w9 ⟨hh2, rfl, E2, k9⟩
 refine ⟨k9, ?_⟩
 replace hb1 := hb1.keep0 k9
 replace hb2 := hb2.keep0 k9
 replace hb5 := hb5.keep0 k9
 replace hB := hB.trans k9
 replace E2 : El hh2 (fpow a 3618502788666131106986593281521497120414687020801267626233049500247285301246) := el_sq (n := 1) E2 rfl
 refine pw_d [(11, _), (12, _)] rfl rfl ⟨rfl, rfl, trivial⟩ rfl (d_call (vs := [_, _]) rfl (mul_any _ _ _ _ E2 hf1 _)) ?_
 rintro _ w10 ⟨hh3, rfl, E3, k10⟩
 refine ⟨k10, ?_⟩
 replace hb1 := hb1.keep0 k10
 replace hb2 := hb2.keep0 k10
 replace hb5 := hb5.keep0 k10
 replace hB := hB.trans k10
 replace E3 : El hh3 (fpow a 3618502788666131106986593281521497120414687020801267626233049500247285301247) := el_mul E3 rfl
 refine pw_d [(13, _)] rfl rfl ⟨rfl, trivial⟩ rfl (d_call (vs := [_, _]) rfl (squares_any _ _ _ E3 (by decide) _)) ?_
 rintro _ w11 ⟨hh4, rfl, E4, k11⟩
 refine ⟨k11, ?_⟩
 replace hb1 := hb1.keep0 k11
 replace hb2 := hb2.keep0 k11
 replace hb5 := hb5.keep0 k11
 replace hB := hB.trans k11
 replace E4 : El hh4 (fpow a 7237005577332262213973186563042994240829374041602535252466099000494570602494) := el_sq (n := 1) E4 rfl
 refine pw_nil ?_
 refine ow_d0 (d_sta ty26 rfl rfl rfl ivF_one hb2 rfl) ?_
 rintro _ w12 ⟨hb7, k12, z7⟩
 replace hb1 := hb1.keep k12 (fun hm => absurd (List.mem_singleton.1 hm) ne_b1_b2)
 replace hb5 := hb5.keep k12 (fun hm => absurd (List.mem_singleton.1 hm) (Ne.symm ne_b2_b3))
 replace hB := hB.new k12 (fun x hx => .inl ((List.mem_singleton.1 hx) ▸ ge_b2))
 clear z7
 replace hb7 : Bk w12 b2 _ [.int .u64 (hh4 0), .int .u64 (hh4 1), .int .u64 (hh4 2), .int .u64 (hh4 3), .int .u64 (hh4 4)] := hb7
 refine ow_nil (tw_retc hfin Try.results82 rfl (run_loadAgg ag26 ty26 ‹_› rfl)  ?_)
 exact ⟨hh4, rfl, E4, hB⟩
set_option maxRecDepth 100000 in
theorem minus1_any (w : World) : Rets Try.prog 84 [] w (fun v w' => ∃ h, v = .agg (iv .u64 5 h).toArray ∧ El h (fpow 2 14474011154664524427946373126085988481658748083205070504932198000989141204987) ∧ Keep [] w w') := by
 have hB : Keep [] w w := Keep.refl _ _
 have hf1 : El (vecN [2, 0, 0, 0, 0]) (fpow 2 1) := el_two
 refine rets_of_tw Try.func84 rfl (by decide) Try.ntmps84 rfl (fun fin _ hfin => ?_)
 refine tw_seq (tw_region (ow_d (d_alloc ty26) rfl ?_))
 rintro _ w1 ⟨b1, rfl, eb1, hb1, k1, z1⟩
 have ge_b1 : w.heap.size ≤ b1 := by have := hB.size; omega
 replace hB := hB.trans k1
 clear eb1 z1
 refine ow_nil (tw_seq (tw_region (ow_g (g_blda (idx := [0]) (xs := [.const (.int .u64 (2))]) (vs := [_]) (css := [[.int .u64 2]]) (out := [.int .u64 2, .int .u64 0, .int .u64 0, .int .u64 0, .int .u64 0]) Try.underlying26 ty24 ty26 (arr_pls 5 1) rfl rfl ⟨rfl, trivial⟩ rfl rfl) rfl ?_)))
 refine ow_d (d_alloc ty26) rfl ?_
 rintro _ w2 ⟨b2, rfl, eb2, hb2, k2, z2⟩
 have ge_b2 : w.heap.size ≤ b2 := by have := hB.size; omega
 have ne_b1_b2 : b1 ≠ b2 := by have := hb1.lt; omega
 replace hb1 := hb1.keep0 k2
 replace hB := hB.trans k2
 clear eb2 z2
 refine ow_d0 (d_sta ty26 rfl rfl rfl (by simp only [List.forall_mem_cons]; refine ⟨rfl, rfl, rfl, rfl, rfl, fun v hv => by cases hv⟩) hb2 rfl) ?_
 rintro _ w3 ⟨hb3, k3, z3⟩
 replace hb1 := hb1.keep k3 (fun hm => absurd (List.mem_singleton.1 hm) ne_b1_b2)
 replace hB := hB.new k3 (fun x hx => .inl ((List.mem_singleton.1 hx) ▸ ge_b2))
 clear z3
 replace hb3 : Bk w3 b2 _ [.int .u64 2, .int .u64 0, .int .u64 0, .int .u64 0, .int .u64 0] := hb3
 refine ow_nil (tw_seq (tw_region (ow_g (g_ldab (cs' := [_, _, _, _, _]) ag26 ty26 rfl hb3 rfl rfl) rfl ?_)))
 refine ow_d (d_call (vs := [_]) rfl (ones_any _ _ hf1 _)) rfl ?_
 rintro _ w4 ⟨gg1, hh1, rfl, E1, G1, k4⟩
 replace hb1 := hb1.keep0 k4
 replace hb3 := hb3.keep0 k4
 replace hB := hB.trans k4
 refine ow_g (g_mv rfl) rfl (ow_g (g_ext (vs := [_, _]) rfl rfl) rfl ?_)
 refine ow_g (g_ext (vs := [_, _]) rfl rfl) rfl ?_
 refine ow_d (d_alloc ty26) rfl ?_
 rintro _ w5 ⟨b3, rfl, eb3, hb4, k5, z4⟩
 have ge_b3 : w.heap.size ≤ b3 := by have := hB.size; omega
 have ne_b1_b3 : b1 ≠ b3 := by have := hb1.lt; omega
 have ne_b2_b3 : b2 ≠ b3 := by have := hb3.lt; omega
 replace hb1 := hb1.keep0 k5
 replace hb3 := hb3.keep0 k5
 replace hB := hB.trans k5
 clear eb3 z4
 refine ow_d (d_alloc ty26) rfl ?_
 rintro _ w6 ⟨b4, rfl, eb4, hb5, k6, z5⟩
 have ge_b4 : w.heap.size ≤ b4 := by have := hB.size; omega
 have ne_b1_b4 : b1 ≠ b4 := by have := hb1.lt; omega
 have ne_b2_b4 : b2 ≠ b4 := by have := hb3.lt; omega
 have ne_b3_b4 : b3 ≠ b4 := by have := hb4.lt; omega
 replace hb1 := hb1.keep0 k6
 replace hb3 := hb3.keep0 k6
 replace hb4 := hb4.keep0 k6
 replace hB := hB.trans k6
 clear eb4 z5
 refine ow_d0 (d_sta ty26 rfl rfl rfl ivF_one hb4 rfl) ?_
 rintro _ w7 ⟨hb6, k7, z6⟩
 replace hb1 := hb1.keep k7 (fun hm => absurd (List.mem_singleton.1 hm) ne_b1_b3)
 replace hb3 := hb3.keep k7 (fun hm => absurd (List.mem_singleton.1 hm) ne_b2_b3)
 replace hb5 := hb5.keep k7 (fun hm => absurd (List.mem_singleton.1 hm) (Ne.symm ne_b3_b4))
 replace hB := hB.new k7 (fun x hx => .inl ((List.mem_singleton.1 hx) ▸ ge_b3))
 clear z6
 replace hb6 : Bk w7 b3 _ [.int .u64 (gg1 0), .int .u64 (gg1 1), .int .u64 (gg1 2), .int .u64 (gg1 3), .int .u64 (gg1 4)] := hb6
 refine ow_d0 (d_sta ty26 rfl rfl rfl ivF_one hb5 rfl) ?_
 rintro _ w8 ⟨hb7, k8, z7⟩
 replace hb1 := hb1.keep k8 (fun hm => absurd (List.mem_singleton.1 hm) ne_b1_b4)
 replace hb3 := hb3.keep k8 (fun hm => absurd (List.mem_singleton.1 hm) ne_b2_b4)
 replace hb6 := hb6.keep k8 (fun hm => absurd (List.mem_singleton.1 hm) ne_b3_b4)
 replace hB := hB.new k8 (fun x hx => .inl ((List.mem_singleton.1 hx) ▸ ge_b4))
 clear z7
 replace hb7 : Bk w8 b4 _ [.int .u64 (hh1 0), .int .u64 (hh1 1), .int .u64 (hh1 2), .int .u64 (hh1 3), .int .u64 (hh1 4)] := hb7
 refine ow_nil (tw_seq (tw_plan 8 [0, 2, 3, 4, 1, 5, 6, 7] [1, 5, 6, 7] [] mixed [(2, _), (1, _), (0, _)] ⟨rfl, rfl, rfl, trivial⟩ (by decide +kernel) rfl (fun w9 k9 => ?_)))
 replace hb1 := hb1.keep0 k9
 replace hb3 := hb3.keep0 k9
 replace hb6 := hb6.keep0 k9
 replace hB := hB.trans k9
 refine pw_g [(2, _)] rfl rfl ⟨rfl, trivial⟩ rfl (fun W' kk => g_ldab (cs' := [_, _, _, _, _]) ag26 ty26 rfl (Bk.keep0 hb6 kk) rfl rfl) ?_
 refine pw_g [(1, _)] rfl rfl ⟨rfl, trivial⟩ rfl (fun W' kk => g_ldab (cs' := [_, _, _, _, _]) ag26 ty26 rfl (Bk.keep0 hb3 kk) rfl rfl) ?_
 refine pw_g [(1, _)] rfl rfl ⟨rfl, trivial⟩ rfl (fun W' kk => g_ldab (cs' := [_, _, _, _, _]) ag26 ty26 rfl (Bk.keep0 hb3 kk) rfl rfl) ?_
 refine pw_g [(1, _)] rfl rfl ⟨rfl, trivial⟩ rfl (fun W' kk => g_ldab (cs' := [_, _, _, _, _]) ag26 ty26 rfl (Bk.keep0 hb3 kk) rfl rfl) ?_
 refine pw_d [(10, _)] rfl rfl ⟨rfl, trivial⟩ rfl (d_call (vs := [_, _]) rfl (squares_any _ _ _ E1 (by decide) _)) ?_
 rintro _ w10 ⟨hh2, rfl, E2, k10⟩
 refine ⟨k10, ?_⟩
 replace hb1 := hb1.keep0 k10
 replace hb3 := hb3.keep0 k10
 replace hb6 := hb6.keep0 k10
 replace hB := hB.trans k10
 replace E2 : El hh2 (fpow 2 14474011154664524427946373126085988481658748083205070504932198000989141204984) := el_sq (n := 3) E2 rfl
 refine pw_d [(13, _), (14, _)] rfl rfl ⟨rfl, rfl, trivial⟩ rfl (d_call (vs := [_, _]) rfl (mul_any _ _ _ _ hf1 hf1 _)) ?_
 rintro _ w11 ⟨hh3, rfl, E3, k11⟩
 refine ⟨k11, ?_⟩
 replace hb1 := hb1.keep0 k11
 replace hb3 := hb3.keep0 k11
 replace hb6 := hb6.keep0 k11
 replace hB := hB.trans k11
 replace E3 : El hh3 (fpow 2 2) := el_mul E3 rfl
 refine pw_d [(12, _), (15, _)] rfl rfl ⟨rfl, rfl, trivial⟩ rfl (d_call (vs := [_, _]) rfl (mul_any _ _ _ _ hf1 E3 _)) ?_
 rintro _ w12 ⟨hh4, rfl, E4, k12⟩
 refine ⟨k12, ?_⟩
 replace hb1 := hb1.keep0 k12
 replace hb3 := hb3.keep0 k12
 replace hb6 := hb6.keep0 k12
 replace hB := hB.trans k12
 replace E4 : El hh4 (fpow 2 3) := el_mul E4 rfl
 refine pw_d [(11, _), (16, _)] rfl rfl ⟨rfl, rfl, trivial⟩ rfl (d_call (vs := [_, _]) rfl (mul_any _ _ _ _ E2 E4 _)) ?_
 rintro _ w13 ⟨hh5, rfl, E5, k13⟩
 refine ⟨k13, ?_⟩
 replace hb1 := hb1.keep0 k13
 replace hb3 := hb3.keep0 k13
 replace hb6 := hb6.keep0 k13
 replace hB := hB.trans k13
 replace E5 : El hh5 (fpow 2 14474011154664524427946373126085988481658748083205070504932198000989141204987) := el_mul E5 rfl
 refine pw_nil ?_
 refine ow_d0 (d_sta ty26 rfl rfl rfl ivF_one hb1 rfl) ?_
 rintro _ w14 ⟨hb8, k14, z8⟩
 replace hb3 := hb3.keep k14 (fun hm => absurd (List.mem_singleton.1 hm) (Ne.symm ne_b1_b2))
 replace hb6 := hb6.keep k14 (fun hm => absurd (List.mem_singleton.1 hm) (Ne.symm ne_b1_b3))
 replace hB := hB.new k14 (fun x hx => .inl ((List.mem_singleton.1 hx) ▸ ge_b1))
 clear z8
 replace hb8 : Bk w14 b1 _ [.int .u64 (hh5 0), .int .u64 (hh5 1), .int .u64 (hh5 2), .int .u64 (hh5 3), .int .u64 (hh5 4)] := hb8
 refine ow_nil (tw_keep [(0, _)] ⟨rfl, trivial⟩ ?_)
 refine tw_retc hfin Try.results84 rfl (run_loadAgg ag26 ty26 ‹_› rfl)  ?_
 exact ⟨hh5, rfl, E5, hB⟩
end Go.Proofs.Ytkngeapegpehpaa.W
