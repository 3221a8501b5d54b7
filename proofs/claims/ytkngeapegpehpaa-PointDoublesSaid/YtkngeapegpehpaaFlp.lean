import Derived.Test.YtkngeapegpehpaaTy
import Derived.Test.YtkngeapegpehpaaFldL
import Derived.Test.YtkngeapegpehpaaBitA
import Derived.Test.YtkngeapegpehpaaEngN
namespace Go.Proofs.Ytkngeapegpehpaa.W
open Go Go.Eng Go.Byt
set_option linter.unusedVariables false
set_option linter.unusedSimpArgs false
open Go.Fld Go.Ed
theorem add64_run (x y c : Int) (hx : In x 0 18446744073709551615) (hy : In y 0 18446744073709551615) (hc : In c 0 1) (w : World) :
    (callFunc 62 #[.int .u64 x, .int .u64 y, .int .u64 c]).run Try.prog w = .ok (.value (.tuple #[.int .u64 ((x + y + c) % 18446744073709551616), .int .u64 ((x + y + c) / 18446744073709551616)])) w := by
  rw [run_callFunc_extern Try.func62 (by kernel_rfl) (by kernel_rfl) (by kernel_rfl) (e := add64Entry) (by kernel_rfl), run_add64 x y c hx.1 hy.1 hc.1 hc.2]
  simp only [Result.andThen]
theorem mul_split {x y x0 x1 y0 y1 : Int} (h0 : x0 = x % 4294967296) (h1 : x1 = x / 4294967296) (h2 : y0 = y % 4294967296) (h3 : y1 = y / 4294967296) : x * y = x1 * y1 * 18446744073709551616 + (x1 * y0 + x0 * y1) * 4294967296 + x0 * y0 := by
  have e1 : x = x1 * 4294967296 + x0 := by omega
  have e2 : y = y1 * 4294967296 + y0 := by omega
  rw [e1, e2]; grind -lia -linarith
set_option maxRecDepth 100000 in
theorem mul64_any (x y : Int) (hx : In x 0 18446744073709551615) (hy : In y 0 18446744073709551615) (w : World) : Rets Try.prog 61 [.int .u64 x, .int .u64 y] w (fun v w' => v = .tuple #[.int .u64 (x * y / 18446744073709551616), .int .u64 (x * y % 18446744073709551616)] ∧ w = w') := by
  refine rets_of_tw Try.func61 rfl (by decide) Try.ntmps61 rfl (fun fin _ hfin => ?_)
  refine tw_seq ?_
  refine tw_region ?_
  refine ow_g (g_as rfl) rfl ?_
  refine ow_g (g_as rfl) rfl ?_
  refine ow_nil ?_
  refine tw_seq ?_
  refine tw_region ?_
  refine ow_g (g_mv rfl) rfl ?_
  refine ow_gx (e' := x % 4294967296) (lo := 0) (hi := 4294967295) (g_and rfl rfl) (and_mod 32 hx rfl rfl rfl rfl rfl rfl) (In.wk (in_mod _ (by decide)) rfl) rfl (fun z1 h1 r1 => ?_)
  refine ow_g (g_as rfl) rfl ?_
  refine ow_nil ?_
  refine tw_seq ?_
  refine tw_region ?_
  refine ow_g (g_mv rfl) rfl ?_
  refine ow_gx (e' := x / 4294967296) (lo := 0) (hi := 4294967295) (g_shrp (m := 4294967296) rfl rfl (by decide) rfl) (rfl) (In.wk (in_div hx (by decide)) rfl) rfl (fun z2 h2 r2 => ?_)
  refine ow_g (g_as rfl) rfl ?_
  refine ow_nil ?_
  refine tw_seq ?_
  refine tw_region ?_
  refine ow_g (g_mv rfl) rfl ?_
  refine ow_gx (e' := y % 4294967296) (lo := 0) (hi := 4294967295) (g_and rfl rfl) (and_mod 32 hy rfl rfl rfl rfl rfl rfl) (In.wk (in_mod _ (by decide)) rfl) rfl (fun z3 h3 r3 => ?_)
  refine ow_g (g_as rfl) rfl ?_
  refine ow_nil ?_
  refine tw_seq ?_
  refine tw_region ?_
  refine ow_g (g_mv rfl) rfl ?_
  refine ow_gx (e' := y / 4294967296) (lo := 0) (hi := 4294967295) (g_shrp (m := 4294967296) rfl rfl (by decide) rfl) (rfl) (In.wk (in_div hy (by decide)) rfl) rfl (fun z4 h4 r4 => ?_)
  refine ow_g (g_as rfl) rfl ?_
  refine ow_nil ?_
  refine tw_seq ?_
  refine tw_region ?_
  refine ow_g (g_mv rfl) rfl ?_
  refine ow_g (g_mv rfl) rfl ?_
  refine ow_gx (e' := z1 * z3) (lo := 0) (hi := 18446744065119617025) (g_mulw rfl rfl) (wrap_fit (in_mul r1 r3 (by decide) (by decide)) rfl) (In.wk (in_mul r1 r3 (by decide) (by decide)) rfl) rfl (fun z5 h5 r5 => ?_)
  refine ow_g (g_as rfl) rfl ?_
  refine ow_nil ?_
  refine tw_seq ?_
  refine tw_region ?_
  refine ow_g (g_mv rfl) rfl ?_
  refine ow_g (g_mv rfl) rfl ?_
  refine ow_gx (e' := z2 * z3) (lo := 0) (hi := 18446744065119617025) (g_mulw rfl rfl) (wrap_fit (in_mul r2 r3 (by decide) (by decide)) rfl) (In.wk (in_mul r2 r3 (by decide) (by decide)) rfl) rfl (fun z6 h6 r6 => ?_)
  refine ow_g (g_mv rfl) rfl ?_
  refine ow_gx (e' := z5 / 4294967296) (lo := 0) (hi := 4294967294) (g_shrp (m := 4294967296) rfl rfl (by decide) rfl) (rfl) (In.wk (in_div r5 (by decide)) rfl) rfl (fun z7 h7 r7 => ?_)
  refine ow_gx (e' := z6 + z7) (lo := 0) (hi := 18446744069414584319) (g_addw rfl rfl) (wrap_fit (in_add r6 r7) rfl) (In.wk (in_add r6 r7) rfl) rfl (fun z8 h8 r8 => ?_)
  refine ow_g (g_as rfl) rfl ?_
  refine ow_nil ?_
  refine tw_seq ?_
  refine tw_region ?_
  refine ow_g (g_mv rfl) rfl ?_
  refine ow_gx (e' := z8 % 4294967296) (lo := 0) (hi := 4294967295) (g_and rfl rfl) (and_mod 32 r8 rfl rfl rfl rfl rfl rfl) (In.wk (in_mod _ (by decide)) rfl) rfl (fun z9 h9 r9 => ?_)
  refine ow_g (g_as rfl) rfl ?_
  refine ow_nil ?_
  refine tw_seq ?_
  refine tw_region ?_
  refine ow_g (g_mv rfl) rfl ?_
  refine ow_gx (e' := z8 / 4294967296) (lo := 0) (hi := 4294967294) (g_shrp (m := 4294967296) rfl rfl (by decide) rfl) (rfl) (In.wk (in_div r8 (by decide)) rfl) rfl (fun z10 h10 r10 => ?_)
  refine ow_g (g_as rfl) rfl ?_
  refine ow_nil ?_
  refine tw_seq ?_
  refine tw_region ?_
  refine ow_g (g_mv rfl) rfl ?_
  refine ow_g (g_mv rfl) rfl ?_
  refine ow_g (g_mv rfl) rfl ?_
  refine ow_gx (e' := z1 * z4) (lo := 0) (hi := 18446744065119617025) (g_mulw rfl rfl) (wrap_fit (in_mul r1 r4 (by decide) (by decide)) rfl) (In.wk (in_mul r1 r4 (by decide) (by decide)) rfl) rfl (fun z11 h11 r11 => ?_)
  refine ow_gx (e' := z9 + z11) (lo := 0) (hi := 18446744069414584320) (g_addw rfl rfl) (wrap_fit (in_add r9 r11) rfl) (In.wk (in_add r9 r11) rfl) rfl (fun z12 h12 r12 => ?_)
  refine ow_g (g_as rfl) rfl ?_
  refine ow_nil ?_
  refine tw_seq ?_
  refine tw_region ?_
  refine ow_g (g_mv rfl) rfl ?_
  refine ow_g (g_mv rfl) rfl ?_
  refine ow_gx (e' := z2 * z4) (lo := 0) (hi := 18446744065119617025) (g_mulw rfl rfl) (wrap_fit (in_mul r2 r4 (by decide) (by decide)) rfl) (In.wk (in_mul r2 r4 (by decide) (by decide)) rfl) rfl (fun z13 h13 r13 => ?_)
  refine ow_g (g_mv rfl) rfl ?_
  refine ow_gx (e' := z13 + z10) (lo := 0) (hi := 18446744069414584319) (g_addw rfl rfl) (wrap_fit (in_add r13 r10) rfl) (In.wk (in_add r13 r10) rfl) rfl (fun z14 h14 r14 => ?_)
  refine ow_g (g_mv rfl) rfl ?_
  refine ow_gx (e' := z12 / 4294967296) (lo := 0) (hi := 4294967295) (g_shrp (m := 4294967296) rfl rfl (by decide) rfl) (rfl) (In.wk (in_div r12 (by decide)) rfl) rfl (fun z15 h15 r15 => ?_)
  refine ow_gx (e' := z14 + z15) (lo := 0) (hi := 18446744073709551614) (g_addw rfl rfl) (wrap_fit (in_add r14 r15) rfl) (In.wk (in_add r14 r15) rfl) rfl (fun z16 h16 r16 => ?_)
  refine ow_g (g_as rfl) rfl ?_
  refine ow_nil ?_
  refine tw_seq ?_
  refine tw_region ?_
  refine ow_g (g_mv rfl) rfl ?_
  refine ow_g (g_mv rfl) rfl ?_
  refine ow_gx (e' := (x * y) % 18446744073709551616) (lo := 0) (hi := 18446744073709551615) (g_mulw rfl rfl) (wrap_uns rfl _) (In.wk (in_mod _ (by decide)) rfl) rfl (fun z17 h17 r17 => ?_)
  refine ow_g (g_as rfl) rfl ?_
  refine ow_nil ?_
  refine tw_ret2 hfin Try.results61 rfl rfl ?_
  have hs := mul_split (x := x) (y := y) h1 h2 h3 h4
  simp only [Eqn, In] at h1 r1 h2 r2 h3 r3 h4 r4 h5 r5 h6 r6 h7 r7 h8 r8 h9 r9 h10 r10 h11 r11 h12 r12 h13 r13 h14 r14 h15 r15 h16 r16 h17 r17 hx hy
  exact ⟨by show Value.tuple #[.int .u64 z16, .int .u64 z17] = _; rw [show z16 = x * y / 18446744073709551616 from by omega, show z17 = x * y % 18446744073709551616 from by omega], rfl⟩

set_option maxRecDepth 100000 in
theorem carry_any (f : Nat → Int) (hf0 : In (f 0) 0 9223372036854775807) (hf1 : In (f 1) 0 9223372036854775807) (hf2 : In (f 2) 0 9223372036854775807) (hf3 : In (f 3) 0 9223372036854775807) (hf4 : In (f 4) 0 9223372036854775807) (w : World) : Rets Try.prog 80 [.agg (iv .u64 5 f).toArray] w (fun v w' => ∃ h c0 c1 c2 c3 c4, v = .agg (iv .u64 5 h).toArray ∧ c0 = f 0 / 2251799813685248 ∧ c1 = (f 1 + c0) / 2251799813685248 ∧ c2 = (f 2 + c1) / 2251799813685248 ∧ c3 = (f 3 + c2) / 2251799813685248 ∧ c4 = (f 4 + c3) / 2251799813685248 ∧ h 0 = f 0 % 2251799813685248 + 19 * c4 ∧ h 1 = (f 1 + c0) % 2251799813685248 ∧ h 2 = (f 2 + c1) % 2251799813685248 ∧ h 3 = (f 3 + c2) % 2251799813685248 ∧ h 4 = (f 4 + c3) % 2251799813685248 ∧ val5 h + c4 * 57896044618658097711785492504343953926634992332820282019728792003956564819949 = val5 f ∧ Keep [] w w') := by
  have hB : Keep [] w w := Keep.refl _ _
  refine rets_of_tw Try.func80 rfl (by decide) Try.ntmps80 rfl (fun fin _ hfin => ?_)
  refine tw_seq ?_
  refine tw_region ?_
  refine ow_d (d_box (cs := [.int .u64 (f 0), .int .u64 (f 1), .int .u64 (f 2), .int .u64 (f 3), .int .u64 (f 4)]) rfl rfl) rfl ?_
  rintro _ w1 ⟨b1, rfl, eb1, hb1, k1, z1⟩
  have ge_b1 : w.heap.size ≤ b1 := by have := hB.size; omega
  replace hB := hB.trans k1
  clear eb1 z1
  refine ow_d (d_alloc ty26) rfl ?_
  rintro _ w2 ⟨b2, rfl, eb2, hb2, k2, z2⟩
  have ge_b2 : w.heap.size ≤ b2 := by have := hB.size; omega
  have ne_b1_b2 : b1 ≠ b2 := by have := hb1.lt; omega
  replace hb1 := hb1.keep0 k2
  replace hB := hB.trans k2
  clear eb2 z2
  refine ow_nil ?_
  refine tw_keep [(1, _), (2, _)] ⟨rfl, rfl, trivial⟩ ?_
  refine tw_seq ?_
  refine tw_seq ?_
  refine tw_region ?_
  refine ow_g (g_mv rfl) rfl ?_
  refine ow_nil ?_
  refine tw_keep [(1, _), (2, _), (4, _)] ⟨rfl, rfl, rfl, trivial⟩ ?_
  refine tw_block ?_
  refine tw_unroll 4 ?_
  refine tw_seq ?_
  refine tw_region ?_
  refine ow_g (g_lt rfl rfl) rfl ?_
  refine ow_nil ?_
  refine tw_keep [(1, _), (2, _), (4, _), (5, _)] ⟨rfl, rfl, rfl, rfl, trivial⟩ ?_
  refine tw_seq ?_
  refine tw_ifT rfl (by decide) ?_
  refine tw_skip ?_
  refine tw_seq ?_
  refine tw_block ?_
  refine tw_seq ?_
  refine tw_region ?_
  refine ow_g (g_mv rfl) rfl ?_
  refine ow_g (g_as rfl) rfl ?_
  refine ow_nil ?_
  refine tw_keep [(1, _), (2, _), (4, _), (3, _)] ⟨rfl, rfl, rfl, rfl, trivial⟩ ?_
  refine tw_seq ?_
  refine tw_still 9 mixed (by decide +kernel) (fun w3 k3 => ?_)
  replace hb1 := hb1.keep0 k3
  replace hb2 := hb2.keep0 k3
  replace hB := hB.trans k3
  refine sw_g (g_mv rfl) rfl ?_
  refine sw_g (g_fold (j := 1) (g_addw rfl rfl) (by decide)) rfl ?_
  refine sw_g (g_ixa Try.underlying26 ty24 rfl rfl (by decide)) rfl ?_
  refine sw_g (g_ldb sc24 rfl hb1 rfl) rfl ?_
  refine sw_g (g_mv rfl) rfl ?_
  refine sw_g (g_ixa Try.underlying26 ty24 rfl rfl (by decide)) rfl ?_
  refine sw_g (g_ldb sc24 rfl hb1 rfl) rfl ?_
  refine sw_gx (e' := (f 0) / 2251799813685248) (lo := 0) (hi := 4095) (g_shrp (m := 2251799813685248) rfl rfl (by decide) rfl) (rfl) (In.wk (in_div hf0 (by decide)) rfl) rfl (fun z3 h1 r1 => ?_)
  refine sw_gx (e' := (f 1) + z3) (lo := 0) (hi := 9223372036854779902) (g_addw rfl rfl) (wrap_fit (in_add hf1 r1) rfl) (In.wk (in_add hf1 r1) rfl) rfl (fun z4 h2 r2 => ?_)
  refine sw_nil ?_
  refine ow_g (g_ixa Try.underlying26 ty24 rfl rfl (by decide)) rfl ?_
  refine ow_d0 (d_st ty24 rfl rfl rfl hb1 rfl) ?_
  rintro _ w4 ⟨hb3, k4, z5⟩
  replace hb2 := hb2.keep k4 (fun hm => absurd (List.mem_singleton.1 hm) (Ne.symm ne_b1_b2))
  replace hB := hB.new k4 (fun x hx => .inl ((List.mem_singleton.1 hx) ▸ ge_b1))
  clear z5
  replace hb3 : Bk w4 b1 _ [.int .u64 (f 0), .int .u64 z4, .int .u64 (f 2), .int .u64 (f 3), .int .u64 (f 4)] := hb3
  refine ow_nil ?_
  refine tw_keep [(1, _), (2, _), (4, _), (3, _)] ⟨rfl, rfl, rfl, rfl, trivial⟩ ?_
  refine tw_region ?_
  refine ow_g (g_mv rfl) rfl ?_
  refine ow_g (g_ixa Try.underlying26 ty24 rfl rfl (by decide)) rfl ?_
  refine ow_g (g_ldb sc24 rfl hb3 rfl) rfl ?_
  refine ow_gx (e' := (f 0) % 2251799813685248) (lo := 0) (hi := 2251799813685247) (g_and rfl rfl) (and_mod 51 hf0 rfl rfl rfl rfl rfl rfl) (In.wk (in_mod _ (by decide)) rfl) rfl (fun z6 h3 r3 => ?_)
  refine ow_g (g_ixa Try.underlying26 ty24 rfl rfl (by decide)) rfl ?_
  refine ow_d0 (d_st ty24 rfl rfl rfl hb3 rfl) ?_
  rintro _ w5 ⟨hb4, k5, z7⟩
  replace hb2 := hb2.keep k5 (fun hm => absurd (List.mem_singleton.1 hm) (Ne.symm ne_b1_b2))
  replace hB := hB.new k5 (fun x hx => .inl ((List.mem_singleton.1 hx) ▸ ge_b1))
  clear z7
  replace hb4 : Bk w5 b1 _ [.int .u64 z6, .int .u64 z4, .int .u64 (f 2), .int .u64 (f 3), .int .u64 (f 4)] := hb4
  refine ow_nil ?_
  refine tw_keep [(1, _), (2, _), (4, _)] ⟨rfl, rfl, rfl, trivial⟩ ?_
  refine tw_b ?_
  refine tw_region ?_
  refine ow_g (g_fold (j := 1) (g_addw rfl rfl) (by decide)) rfl ?_
  refine ow_g (g_mv rfl) rfl ?_
  refine ow_nil ?_
  refine tw_keep [(1, _), (2, _), (4, _)] ⟨rfl, rfl, rfl, trivial⟩ ?_
  refine tw_lp ?_
  refine tw_seq ?_
  refine tw_region ?_
  refine ow_g (g_lt rfl rfl) rfl ?_
  refine ow_nil ?_
  refine tw_keep [(1, _), (2, _), (4, _), (5, _)] ⟨rfl, rfl, rfl, rfl, trivial⟩ ?_
  refine tw_seq ?_
  refine tw_ifT rfl (by decide) ?_
  refine tw_skip ?_
  refine tw_seq ?_
  refine tw_block ?_
  refine tw_seq ?_
  refine tw_region ?_
  refine ow_g (g_mv rfl) rfl ?_
  refine ow_g (g_as rfl) rfl ?_
  refine ow_nil ?_
  refine tw_keep [(1, _), (2, _), (4, _), (3, _)] ⟨rfl, rfl, rfl, rfl, trivial⟩ ?_
  refine tw_seq ?_
  refine tw_still 9 mixed (by decide +kernel) (fun w6 k6 => ?_)
  replace hb2 := hb2.keep0 k6
  replace hb4 := hb4.keep0 k6
  replace hB := hB.trans k6
  refine sw_g (g_mv rfl) rfl ?_
  refine sw_g (g_fold (j := 2) (g_addw rfl rfl) (by decide)) rfl ?_
  refine sw_g (g_ixa Try.underlying26 ty24 rfl rfl (by decide)) rfl ?_
  refine sw_g (g_ldb sc24 rfl hb4 rfl) rfl ?_
  refine sw_g (g_mv rfl) rfl ?_
  refine sw_g (g_ixa Try.underlying26 ty24 rfl rfl (by decide)) rfl ?_
  refine sw_g (g_ldb sc24 rfl hb4 rfl) rfl ?_
  refine sw_gx (e' := z4 / 2251799813685248) (lo := 0) (hi := 4096) (g_shrp (m := 2251799813685248) rfl rfl (by decide) rfl) (rfl) (In.wk (in_div r2 (by decide)) rfl) rfl (fun z8 h4 r4 => ?_)
  refine sw_gx (e' := (f 2) + z8) (lo := 0) (hi := 9223372036854779903) (g_addw rfl rfl) (wrap_fit (in_add hf2 r4) rfl) (In.wk (in_add hf2 r4) rfl) rfl (fun z9 h5 r5 => ?_)
  refine sw_nil ?_
  refine ow_g (g_ixa Try.underlying26 ty24 rfl rfl (by decide)) rfl ?_
  refine ow_d0 (d_st ty24 rfl rfl rfl hb4 rfl) ?_
  rintro _ w7 ⟨hb5, k7, z10⟩
  replace hb2 := hb2.keep k7 (fun hm => absurd (List.mem_singleton.1 hm) (Ne.symm ne_b1_b2))
  replace hB := hB.new k7 (fun x hx => .inl ((List.mem_singleton.1 hx) ▸ ge_b1))
  clear z10
  replace hb5 : Bk w7 b1 _ [.int .u64 z6, .int .u64 z4, .int .u64 z9, .int .u64 (f 3), .int .u64 (f 4)] := hb5
  refine ow_nil ?_
  refine tw_keep [(1, _), (2, _), (4, _), (3, _)] ⟨rfl, rfl, rfl, rfl, trivial⟩ ?_
  refine tw_region ?_
  refine ow_g (g_mv rfl) rfl ?_
  refine ow_g (g_ixa Try.underlying26 ty24 rfl rfl (by decide)) rfl ?_
  refine ow_g (g_ldb sc24 rfl hb5 rfl) rfl ?_
  refine ow_gx (e' := z4 % 2251799813685248) (lo := 0) (hi := 2251799813685247) (g_and rfl rfl) (and_mod 51 r2 rfl rfl rfl rfl rfl rfl) (In.wk (in_mod _ (by decide)) rfl) rfl (fun z11 h6 r6 => ?_)
  refine ow_g (g_ixa Try.underlying26 ty24 rfl rfl (by decide)) rfl ?_
  refine ow_d0 (d_st ty24 rfl rfl rfl hb5 rfl) ?_
  rintro _ w8 ⟨hb6, k8, z12⟩
  replace hb2 := hb2.keep k8 (fun hm => absurd (List.mem_singleton.1 hm) (Ne.symm ne_b1_b2))
  replace hB := hB.new k8 (fun x hx => .inl ((List.mem_singleton.1 hx) ▸ ge_b1))
  clear z12
  replace hb6 : Bk w8 b1 _ [.int .u64 z6, .int .u64 z11, .int .u64 z9, .int .u64 (f 3), .int .u64 (f 4)] := hb6
  refine ow_nil ?_
  refine tw_keep [(1, _), (2, _), (4, _)] ⟨rfl, rfl, rfl, trivial⟩ ?_
  refine tw_b ?_
  refine tw_region ?_
  refine ow_g (g_fold (j := 2) (g_addw rfl rfl) (by decide)) rfl ?_
  refine ow_g (g_mv rfl) rfl ?_
  refine ow_nil ?_
  refine tw_keep [(1, _), (2, _), (4, _)] ⟨rfl, rfl, rfl, trivial⟩ ?_
  refine tw_lp ?_
  refine tw_seq ?_
  refine tw_region ?_
  refine ow_g (g_lt rfl rfl) rfl ?_
  refine ow_nil ?_
  refine tw_keep [(1, _), (2, _), (4, _), (5, _)] ⟨rfl, rfl, rfl, rfl, trivial⟩ ?_
  refine tw_seq ?_
  refine tw_ifT rfl (by decide) ?_
  refine tw_skip ?_
  refine tw_seq ?_
  refine tw_block ?_
  refine tw_seq ?_
  refine tw_region ?_
  refine ow_g (g_mv rfl) rfl ?_
  refine ow_g (g_as rfl) rfl ?_
  refine ow_nil ?_
  refine tw_keep [(1, _), (2, _), (4, _), (3, _)] ⟨rfl, rfl, rfl, rfl, trivial⟩ ?_
  refine tw_seq ?_
  refine tw_still 9 mixed (by decide +kernel) (fun w9 k9 => ?_)
  replace hb2 := hb2.keep0 k9
  replace hb6 := hb6.keep0 k9
  replace hB := hB.trans k9
  refine sw_g (g_mv rfl) rfl ?_
  refine sw_g (g_fold (j := 3) (g_addw rfl rfl) (by decide)) rfl ?_
  refine sw_g (g_ixa Try.underlying26 ty24 rfl rfl (by decide)) rfl ?_
  refine sw_g (g_ldb sc24 rfl hb6 rfl) rfl ?_
  refine sw_g (g_mv rfl) rfl ?_
  refine sw_g (g_ixa Try.underlying26 ty24 rfl rfl (by decide)) rfl ?_
  refine sw_g (g_ldb sc24 rfl hb6 rfl) rfl ?_
  refine sw_gx (e' := z9 / 2251799813685248) (lo := 0) (hi := 4096) (g_shrp (m := 2251799813685248) rfl rfl (by decide) rfl) (rfl) (In.wk (in_div r5 (by decide)) rfl) rfl (fun z13 h7 r7 => ?_)
  refine sw_gx (e' := (f 3) + z13) (lo := 0) (hi := 9223372036854779903) (g_addw rfl rfl) (wrap_fit (in_add hf3 r7) rfl) (In.wk (in_add hf3 r7) rfl) rfl (fun z14 h8 r8 => ?_)
  refine sw_nil ?_
  refine ow_g (g_ixa Try.underlying26 ty24 rfl rfl (by decide)) rfl ?_
  refine ow_d0 (d_st ty24 rfl rfl rfl hb6 rfl) ?_
  rintro _ w10 ⟨hb7, k10, z15⟩
  replace hb2 := hb2.keep k10 (fun hm => absurd (List.mem_singleton.1 hm) (Ne.symm ne_b1_b2))
  replace hB := hB.new k10 (fun x hx => .inl ((List.mem_singleton.1 hx) ▸ ge_b1))
  clear z15
  replace hb7 : Bk w10 b1 _ [.int .u64 z6, .int .u64 z11, .int .u64 z9, .int .u64 z14, .int .u64 (f 4)] := hb7
  refine ow_nil ?_
  refine tw_keep [(1, _), (2, _), (4, _), (3, _)] ⟨rfl, rfl, rfl, rfl, trivial⟩ ?_
  refine tw_region ?_
  refine ow_g (g_mv rfl) rfl ?_
  refine ow_g (g_ixa Try.underlying26 ty24 rfl rfl (by decide)) rfl ?_
  refine ow_g (g_ldb sc24 rfl hb7 rfl) rfl ?_
  refine ow_gx (e' := z9 % 2251799813685248) (lo := 0) (hi := 2251799813685247) (g_and rfl rfl) (and_mod 51 r5 rfl rfl rfl rfl rfl rfl) (In.wk (in_mod _ (by decide)) rfl) rfl (fun z16 h9 r9 => ?_)
  refine ow_g (g_ixa Try.underlying26 ty24 rfl rfl (by decide)) rfl ?_
  refine ow_d0 (d_st ty24 rfl rfl rfl hb7 rfl) ?_
  rintro _ w11 ⟨hb8, k11, z17⟩
  replace hb2 := hb2.keep k11 (fun hm => absurd (List.mem_singleton.1 hm) (Ne.symm ne_b1_b2))
  replace hB := hB.new k11 (fun x hx => .inl ((List.mem_singleton.1 hx) ▸ ge_b1))
  clear z17
  replace hb8 : Bk w11 b1 _ [.int .u64 z6, .int .u64 z11, .int .u64 z16, .int .u64 z14, .int .u64 (f 4)] := hb8
  refine ow_nil ?_
  refine tw_keep [(1, _), (2, _), (4, _)] ⟨rfl, rfl, rfl, trivial⟩ ?_
  refine tw_b ?_
  refine tw_region ?_
  refine ow_g (g_fold (j := 3) (g_addw rfl rfl) (by decide)) rfl ?_
  refine ow_g (g_mv rfl) rfl ?_
  refine ow_nil ?_
  refine tw_keep [(1, _), (2, _), (4, _)] ⟨rfl, rfl, rfl, trivial⟩ ?_
  refine tw_lp ?_
  refine tw_seq ?_
  refine tw_region ?_
  refine ow_g (g_lt rfl rfl) rfl ?_
  refine ow_nil ?_
  refine tw_keep [(1, _), (2, _), (4, _), (5, _)] ⟨rfl, rfl, rfl, rfl, trivial⟩ ?_
  refine tw_seq ?_
  refine tw_ifT rfl (by decide) ?_
  refine tw_skip ?_
  refine tw_seq ?_
  refine tw_block ?_
  refine tw_seq ?_
  refine tw_region ?_
  refine ow_g (g_mv rfl) rfl ?_
  refine ow_g (g_as rfl) rfl ?_
  refine ow_nil ?_
  refine tw_keep [(1, _), (2, _), (4, _), (3, _)] ⟨rfl, rfl, rfl, rfl, trivial⟩ ?_
  refine tw_seq ?_
  refine tw_still 9 mixed (by decide +kernel) (fun w12 k12 => ?_)
  replace hb2 := hb2.keep0 k12
  replace hb8 := hb8.keep0 k12
  replace hB := hB.trans k12
  refine sw_g (g_mv rfl) rfl ?_
  refine sw_g (g_fold (j := 4) (g_addw rfl rfl) (by decide)) rfl ?_
  refine sw_g (g_ixa Try.underlying26 ty24 rfl rfl (by decide)) rfl ?_
  refine sw_g (g_ldb sc24 rfl hb8 rfl) rfl ?_
  refine sw_g (g_mv rfl) rfl ?_
  refine sw_g (g_ixa Try.underlying26 ty24 rfl rfl (by decide)) rfl ?_
  refine sw_g (g_ldb sc24 rfl hb8 rfl) rfl ?_
  refine sw_gx (e' := z14 / 2251799813685248) (lo := 0) (hi := 4096) (g_shrp (m := 2251799813685248) rfl rfl (by decide) rfl) (rfl) (In.wk (in_div r8 (by decide)) rfl) rfl (fun z18 h10 r10 => ?_)
  refine sw_gx (e' := (f 4) + z18) (lo := 0) (hi := 9223372036854779903) (g_addw rfl rfl) (wrap_fit (in_add hf4 r10) rfl) (In.wk (in_add hf4 r10) rfl) rfl (fun z19 h11 r11 => ?_)
  refine sw_nil ?_
  refine ow_g (g_ixa Try.underlying26 ty24 rfl rfl (by decide)) rfl ?_
  refine ow_d0 (d_st ty24 rfl rfl rfl hb8 rfl) ?_
  rintro _ w13 ⟨hb9, k13, z20⟩
  replace hb2 := hb2.keep k13 (fun hm => absurd (List.mem_singleton.1 hm) (Ne.symm ne_b1_b2))
  replace hB := hB.new k13 (fun x hx => .inl ((List.mem_singleton.1 hx) ▸ ge_b1))
  clear z20
  replace hb9 : Bk w13 b1 _ [.int .u64 z6, .int .u64 z11, .int .u64 z16, .int .u64 z14, .int .u64 z19] := hb9
  refine ow_nil ?_
  refine tw_keep [(1, _), (2, _), (4, _), (3, _)] ⟨rfl, rfl, rfl, rfl, trivial⟩ ?_
  refine tw_region ?_
  refine ow_g (g_mv rfl) rfl ?_
  refine ow_g (g_ixa Try.underlying26 ty24 rfl rfl (by decide)) rfl ?_
  refine ow_g (g_ldb sc24 rfl hb9 rfl) rfl ?_
  refine ow_gx (e' := z14 % 2251799813685248) (lo := 0) (hi := 2251799813685247) (g_and rfl rfl) (and_mod 51 r8 rfl rfl rfl rfl rfl rfl) (In.wk (in_mod _ (by decide)) rfl) rfl (fun z21 h12 r12 => ?_)
  refine ow_g (g_ixa Try.underlying26 ty24 rfl rfl (by decide)) rfl ?_
  refine ow_d0 (d_st ty24 rfl rfl rfl hb9 rfl) ?_
  rintro _ w14 ⟨hb10, k14, z22⟩
  replace hb2 := hb2.keep k14 (fun hm => absurd (List.mem_singleton.1 hm) (Ne.symm ne_b1_b2))
  replace hB := hB.new k14 (fun x hx => .inl ((List.mem_singleton.1 hx) ▸ ge_b1))
  clear z22
  replace hb10 : Bk w14 b1 _ [.int .u64 z6, .int .u64 z11, .int .u64 z16, .int .u64 z21, .int .u64 z19] := hb10
  refine ow_nil ?_
  refine tw_keep [(1, _), (2, _), (4, _)] ⟨rfl, rfl, rfl, trivial⟩ ?_
  refine tw_b ?_
  refine tw_region ?_
  refine ow_g (g_fold (j := 4) (g_addw rfl rfl) (by decide)) rfl ?_
  refine ow_g (g_mv rfl) rfl ?_
  refine ow_nil ?_
  refine tw_keep [(1, _), (2, _), (4, _)] ⟨rfl, rfl, rfl, trivial⟩ ?_
  refine tw_lp ?_
  refine tw_seq ?_
  refine tw_region ?_
  refine ow_g (g_lt rfl rfl) rfl ?_
  refine ow_nil ?_
  refine tw_keep [(1, _), (2, _), (4, _), (5, _)] ⟨rfl, rfl, rfl, rfl, trivial⟩ ?_
  refine tw_seq ?_
  refine tw_ifF rfl (by decide) ?_
  refine tw_exit rfl ?_
  refine tw_seq ?_
  refine tw_region ?_
  refine ow_g (g_ixa Try.underlying26 ty24 rfl rfl (by decide)) rfl ?_
  refine ow_g (g_ldb sc24 rfl hb10 rfl) rfl ?_
  refine ow_g (g_ixa Try.underlying26 ty24 rfl rfl (by decide)) rfl ?_
  refine ow_g (g_ldb sc24 rfl hb10 rfl) rfl ?_
  refine ow_gx (e' := z19 / 2251799813685248) (lo := 0) (hi := 4096) (g_shrp (m := 2251799813685248) rfl rfl (by decide) rfl) (rfl) (In.wk (in_div r11 (by decide)) rfl) rfl (fun z23 h13 r13 => ?_)
  refine ow_gx (e' := 19 * z23) (lo := 0) (hi := 77824) (g_mulw rfl rfl) (wrap_fit (in_cmul r13 (by decide)) rfl) (In.wk (in_cmul r13 (by decide)) rfl) rfl (fun z24 h14 r14 => ?_)
  refine ow_gx (e' := z6 + z24) (lo := 0) (hi := 2251799813763071) (g_addw rfl rfl) (wrap_fit (in_add r3 r14) rfl) (In.wk (in_add r3 r14) rfl) rfl (fun z25 h15 r15 => ?_)
  refine ow_g (g_ixa Try.underlying26 ty24 rfl rfl (by decide)) rfl ?_
  refine ow_d0 (d_st ty24 rfl rfl rfl hb10 rfl) ?_
  rintro _ w15 ⟨hb11, k15, z26⟩
  replace hb2 := hb2.keep k15 (fun hm => absurd (List.mem_singleton.1 hm) (Ne.symm ne_b1_b2))
  replace hB := hB.new k15 (fun x hx => .inl ((List.mem_singleton.1 hx) ▸ ge_b1))
  clear z26
  replace hb11 : Bk w15 b1 _ [.int .u64 z25, .int .u64 z11, .int .u64 z16, .int .u64 z21, .int .u64 z19] := hb11
  refine ow_nil ?_
  refine tw_keep [(1, _), (2, _)] ⟨rfl, rfl, trivial⟩ ?_
  refine tw_seq ?_
  refine tw_region ?_
  refine ow_g (g_ixa Try.underlying26 ty24 rfl rfl (by decide)) rfl ?_
  refine ow_g (g_ldb sc24 rfl hb11 rfl) rfl ?_
  refine ow_gx (e' := z19 % 2251799813685248) (lo := 0) (hi := 2251799813685247) (g_and rfl rfl) (and_mod 51 r11 rfl rfl rfl rfl rfl rfl) (In.wk (in_mod _ (by decide)) rfl) rfl (fun z27 h16 r16 => ?_)
  refine ow_g (g_ixa Try.underlying26 ty24 rfl rfl (by decide)) rfl ?_
  refine ow_d0 (d_st ty24 rfl rfl rfl hb11 rfl) ?_
  rintro _ w16 ⟨hb12, k16, z28⟩
  replace hb2 := hb2.keep k16 (fun hm => absurd (List.mem_singleton.1 hm) (Ne.symm ne_b1_b2))
  replace hB := hB.new k16 (fun x hx => .inl ((List.mem_singleton.1 hx) ▸ ge_b1))
  clear z28
  replace hb12 : Bk w16 b1 _ [.int .u64 z25, .int .u64 z11, .int .u64 z16, .int .u64 z21, .int .u64 z27] := hb12
  refine ow_nil ?_
  refine tw_keep [(1, _), (2, _)] ⟨rfl, rfl, trivial⟩ ?_
  refine tw_seq ?_
  refine tw_region ?_
  refine ow_g (g_ldab (cs' := [_, _, _, _, _]) ag26 ty26 rfl hb12 rfl rfl) rfl ?_
  refine ow_d0 (d_sta ty26 rfl rfl rfl (by simp only [List.forall_mem_cons]; refine ⟨rfl, rfl, rfl, rfl, rfl, fun v hv => by cases hv⟩) hb2 rfl) ?_
  rintro _ w17 ⟨hb13, k17, z29⟩
  replace hb12 := hb12.keep k17 (fun hm => absurd (List.mem_singleton.1 hm) ne_b1_b2)
  replace hB := hB.new k17 (fun x hx => .inl ((List.mem_singleton.1 hx) ▸ ge_b2))
  clear z29
  replace hb13 : Bk w17 b2 _ [.int .u64 z25, .int .u64 z11, .int .u64 z16, .int .u64 z21, .int .u64 z27] := hb13
  refine ow_nil ?_
  refine tw_keep [(2, _)] ⟨rfl, trivial⟩ ?_
  refine tw_retc hfin Try.results80 rfl (run_loadAgg ag26 ty26 (by assumption) rfl)  ?_
  simp only [Eqn, In] at h1 r1 h2 r2 h3 r3 h4 r4 h5 r5 h6 r6 h7 r7 h8 r8 h9 r9 h10 r10 h11 r11 h12 r12 h13 r13 h14 r14 h15 r15 h16 r16 hf0 hf1 hf2 hf3 hf4
  exact ⟨(vecN [z25, z11, z16, z21, z27]), _, _, _, _, _, rfl, rfl, rfl, rfl, rfl, rfl, (by show z25 = _; omega), (by show z11 = _; omega), (by show z16 = _; omega), (by show z21 = _; omega), (by show z27 = _; omega), (by show z25 + z11 * 2251799813685248 + z16 * 5070602400912917605986812821504 + z21 * 11417981541647679048466287755595961091061972992 + z27 * 25711008708143844408671393477458601640355247900524685364822016 + _ = val5 f; unfold val5; omega), hB⟩

set_option maxRecDepth 100000 in
theorem plus_any (h0 l0 x y b c d e : Int) (rh0 : In h0 0 18446744073709551615) (rl0 : In l0 0 18446744073709551615) (hx : In x 0 18446744073709551615) (hy : In y 0 18446744073709551615) (hb : Le (h0 * 18446744073709551616 + l0) b) (hc : x * y ≤ c) (hd : b + c = d) (he : d / 18446744073709551616 = e) (hm : e ≤ 18446744073709551615) (w : World) : Rets Try.prog 81 [.agg [.int .u64 h0, .int .u64 l0].toArray, .int .u64 x, .int .u64 y] w (fun v w' => ∃ hi lo, v = .agg [.int .u64 hi, .int .u64 lo].toArray ∧ In hi 0 e ∧ In lo 0 18446744073709551615 ∧ Eqn (hi * 18446744073709551616 + lo) (h0 * 18446744073709551616 + l0 + x * y) ∧ Le (hi * 18446744073709551616 + lo) d ∧ Keep [] w w') := by
  have hB : Keep [] w w := Keep.refl _ _
  have hxy : 0 ≤ x * y := Int.mul_nonneg hx.1 hy.1
  refine rets_of_tw Try.func81 rfl (by decide) Try.ntmps81 rfl (fun fin _ hfin => ?_)
  refine tw_seq ?_
  refine tw_region ?_
  refine ow_d (d_box (cs := [.int .u64 h0, .int .u64 l0]) rfl rfl) rfl ?_
  rintro _ w1 ⟨b1, rfl, eb1, hb1, k1, z1⟩
  have ge_b1 : w.heap.size ≤ b1 := by have := hB.size; omega
  replace hB := hB.trans k1
  clear eb1 z1
  refine ow_d (d_alloc ty106) rfl ?_
  rintro _ w2 ⟨b2, rfl, eb2, hb2, k2, z2⟩
  have ge_b2 : w.heap.size ≤ b2 := by have := hB.size; omega
  have ne_b1_b2 : b1 ≠ b2 := by have := hb1.lt; omega
  replace hb1 := hb1.keep0 k2
  replace hB := hB.trans k2
  clear eb2 z2
  refine ow_nil ?_
  refine tw_keep [(1, _), (2, _), (3, _), (6, _)] ⟨rfl, rfl, rfl, rfl, trivial⟩ ?_
  refine tw_seq ?_
  refine tw_region ?_
  refine ow_g (g_mv rfl) rfl ?_
  refine ow_g (g_mv rfl) rfl ?_
  refine ow_d (d_call (vs := [_, _]) rfl (mul64_any _ _ (In.wk hx rfl) (In.wk hy rfl) _)) rfl ?_
  rintro _ _ ⟨rfl, rfl⟩
  refine ow_g (g_mv rfl) rfl ?_
  refine ow_gx (e' := (x * y / 18446744073709551616)) (lo := 0) (hi := 18446744073709551614) (g_ext (vs := [_, _]) rfl rfl) (rfl) (In.wk (in_div (in_mul hx hy (by decide) (by decide)) (by decide)) rfl) rfl (fun z3 h1 r1 => ?_)
  refine ow_gx (e' := (x * y % 18446744073709551616)) (lo := 0) (hi := 18446744073709551615) (g_ext (vs := [_, _]) rfl rfl) (rfl) (In.wk (in_mod _ (by decide)) rfl) rfl (fun z4 h2 r2 => ?_)
  refine ow_g (g_as rfl) rfl ?_
  refine ow_g (g_as rfl) rfl ?_
  refine ow_nil ?_
  refine tw_keep [(3, _), (6, _), (7, _), (8, _)] ⟨rfl, rfl, rfl, rfl, trivial⟩ ?_
  refine tw_seq ?_
  refine tw_region ?_
  refine ow_g (g_as rfl) rfl ?_
  refine ow_nil ?_
  refine tw_keep [(3, _), (6, _), (7, _), (8, _)] ⟨rfl, rfl, rfl, rfl, trivial⟩ ?_
  refine tw_seq ?_
  refine tw_region ?_
  refine ow_g (g_fa Try.underlying106 rfl ty24 (by decide) rfl) rfl ?_
  refine ow_g (g_ldb sc24 rfl hb1 rfl) rfl ?_
  refine ow_g (g_mv rfl) rfl ?_
  refine ow_g (g_callv (vs := [_, _, _]) rfl (add64_run _ _ _ (In.wk rl0 rfl) (In.wk r2 rfl) (In.wk (in_c 0) rfl))) rfl ?_
  refine ow_g (g_mv rfl) rfl ?_
  refine ow_gx (e' := ((l0 + z4 + 0) % 18446744073709551616)) (lo := 0) (hi := 18446744073709551615) (g_ext (vs := [_, _]) rfl rfl) (rfl) (In.wk (in_mod _ (by decide)) rfl) rfl (fun z5 h3 r3 => ?_)
  refine ow_gx (e' := ((l0 + z4 + 0) / 18446744073709551616)) (lo := 0) (hi := 1) (g_ext (vs := [_, _]) rfl rfl) (rfl) (In.wk (in_div (in_add (in_add rl0 r2) (in_c 0)) (by decide)) rfl) rfl (fun z6 h4 r4 => ?_)
  refine ow_g (g_fa Try.underlying106 rfl ty24 (by decide) rfl) rfl ?_
  refine ow_d0 (d_st ty24 rfl rfl rfl hb1 rfl) ?_
  rintro _ w3 ⟨hb3, k3, z7⟩
  replace hb2 := hb2.keep k3 (fun hm => absurd (List.mem_singleton.1 hm) (Ne.symm ne_b1_b2))
  replace hB := hB.new k3 (fun x hx => .inl ((List.mem_singleton.1 hx) ▸ ge_b1))
  clear z7
  replace hb3 : Bk w3 b1 _ [.int .u64 h0, .int .u64 z5] := hb3
  refine ow_g (g_as rfl) rfl ?_
  refine ow_nil ?_
  refine tw_keep [(3, _), (6, _), (7, _), (9, _)] ⟨rfl, rfl, rfl, rfl, trivial⟩ ?_
  refine tw_seq ?_
  refine tw_region ?_
  refine ow_g (g_fa Try.underlying106 rfl ty24 (by decide) rfl) rfl ?_
  refine ow_g (g_ldb sc24 rfl hb3 rfl) rfl ?_
  refine ow_g (g_mv rfl) rfl ?_
  refine ow_g (g_mv rfl) rfl ?_
  refine ow_g (g_callv (vs := [_, _, _]) rfl (add64_run _ _ _ (In.wk rh0 rfl) (In.wk r1 rfl) (In.wk r4 rfl))) rfl ?_
  refine ow_g (g_mv rfl) rfl ?_
  refine ow_gx (e' := ((h0 + z3 + z6) % 18446744073709551616)) (lo := 0) (hi := 18446744073709551615) (g_ext (vs := [_, _]) rfl rfl) (rfl) (In.wk (in_mod _ (by decide)) rfl) rfl (fun z8 h5 r5 => ?_)
  refine ow_gx (e' := ((h0 + z3 + z6) / 18446744073709551616)) (lo := 0) (hi := 1) (g_ext (vs := [_, _]) rfl rfl) (rfl) (In.wk (in_div (in_add (in_add rh0 r1) r4) (by decide)) rfl) rfl (fun z9 h6 r6 => ?_)
  refine ow_g (g_fa Try.underlying106 rfl ty24 (by decide) rfl) rfl ?_
  refine ow_d0 (d_st ty24 rfl rfl rfl hb3 rfl) ?_
  rintro _ w4 ⟨hb4, k4, z10⟩
  replace hb2 := hb2.keep k4 (fun hm => absurd (List.mem_singleton.1 hm) (Ne.symm ne_b1_b2))
  replace hB := hB.new k4 (fun x hx => .inl ((List.mem_singleton.1 hx) ▸ ge_b1))
  clear z10
  replace hb4 : Bk w4 b1 _ [.int .u64 z8, .int .u64 z5] := hb4
  refine ow_nil ?_
  refine tw_keep [(3, _), (6, _)] ⟨rfl, rfl, trivial⟩ ?_
  refine tw_seq ?_
  refine tw_region ?_
  refine ow_g (g_ldab (cs' := [_, _]) ag106 ty106 rfl hb4 rfl rfl) rfl ?_
  refine ow_d0 (d_sta ty106 rfl rfl rfl (by simp only [List.forall_mem_cons]; refine ⟨rfl, rfl, fun v hv => by cases hv⟩) hb2 rfl) ?_
  rintro _ w5 ⟨hb5, k5, z11⟩
  replace hb4 := hb4.keep k5 (fun hm => absurd (List.mem_singleton.1 hm) ne_b1_b2)
  replace hB := hB.new k5 (fun x hx => .inl ((List.mem_singleton.1 hx) ▸ ge_b2))
  clear z11
  replace hb5 : Bk w5 b2 _ [.int .u64 z8, .int .u64 z5] := hb5
  refine ow_nil ?_
  refine tw_keep [(6, _)] ⟨rfl, trivial⟩ ?_
  refine tw_retc hfin Try.results81 rfl (run_loadAgg ag106 ty106 (by assumption) rfl)  ?_
  simp only [Eqn, In] at h1 r1 h2 r2 h3 r3 h4 r4 h5 r5 h6 r6 hx hy rh0 rl0
  unfold Le at hb
  exact ⟨z8, z5, rfl, by unfold In; omega, by unfold In; omega, by unfold Eqn; omega, by unfold Le; omega, hB⟩

set_option maxRecDepth 100000 in
theorem add_any (f g : Nat → Int) (a b : Fp) (hf : El f a) (hg : El g b) (w : World) : Rets Try.prog 73 [.agg (iv .u64 5 f).toArray, .agg (iv .u64 5 g).toArray] w (fun v w' => ∃ h, v = .agg (iv .u64 5 h).toArray ∧ El h (a + b) ∧ Keep [] w w') := by
  have hB : Keep [] w w := Keep.refl _ _
  obtain ⟨f0, f1, f2, f3, f4, hfv⟩ := hf
  obtain ⟨g0, g1, g2, g3, g4, hgv⟩ := hg
  refine rets_of_tw Try.func73 rfl (by decide) Try.ntmps73 rfl (fun fin _ hfin => ?_)
  refine tw_seq ?_
  refine tw_region ?_
  refine ow_d (d_box (cs := [.int .u64 (f 0), .int .u64 (f 1), .int .u64 (f 2), .int .u64 (f 3), .int .u64 (f 4)]) rfl rfl) rfl ?_
  rintro _ w1 ⟨b1, rfl, eb1, hb1, k1, z1⟩
  have ge_b1 : w.heap.size ≤ b1 := by have := hB.size; omega
  replace hB := hB.trans k1
  clear eb1 z1
  refine ow_d (d_box (cs := [.int .u64 (g 0), .int .u64 (g 1), .int .u64 (g 2), .int .u64 (g 3), .int .u64 (g 4)]) rfl rfl) rfl ?_
  rintro _ w2 ⟨b2, rfl, eb2, hb2, k2, z2⟩
  have ge_b2 : w.heap.size ≤ b2 := by have := hB.size; omega
  have ne_b1_b2 : b1 ≠ b2 := by have := hb1.lt; omega
  replace hb1 := hb1.keep0 k2
  replace hB := hB.trans k2
  clear eb2 z2
  refine ow_d (d_alloc ty26) rfl ?_
  rintro _ w3 ⟨b3, rfl, eb3, hb3, k3, z3⟩
  have ge_b3 : w.heap.size ≤ b3 := by have := hB.size; omega
  have ne_b1_b3 : b1 ≠ b3 := by have := hb1.lt; omega
  have ne_b2_b3 : b2 ≠ b3 := by have := hb2.lt; omega
  replace hb1 := hb1.keep0 k3
  replace hb2 := hb2.keep0 k3
  replace hB := hB.trans k3
  clear eb3 z3
  refine ow_nil ?_
  refine tw_keep [(2, _), (3, _), (4, _)] ⟨rfl, rfl, rfl, trivial⟩ ?_
  refine tw_seq ?_
  refine tw_seq ?_
  refine tw_region ?_
  refine ow_g (g_mv rfl) rfl ?_
  refine ow_nil ?_
  refine tw_keep [(2, _), (3, _), (4, _), (6, _)] ⟨rfl, rfl, rfl, rfl, trivial⟩ ?_
  refine tw_block ?_
  refine tw_unroll 5 ?_
  refine tw_seq ?_
  refine tw_region ?_
  refine ow_g (g_lt rfl rfl) rfl ?_
  refine ow_nil ?_
  refine tw_keep [(2, _), (3, _), (4, _), (6, _), (7, _)] ⟨rfl, rfl, rfl, rfl, rfl, trivial⟩ ?_
  refine tw_seq ?_
  refine tw_ifT rfl (by decide) ?_
  refine tw_skip ?_
  refine tw_seq ?_
  refine tw_block ?_
  refine tw_seq ?_
  refine tw_region ?_
  refine ow_g (g_mv rfl) rfl ?_
  refine ow_g (g_as rfl) rfl ?_
  refine ow_nil ?_
  refine tw_keep [(2, _), (3, _), (4, _), (6, _), (5, _)] ⟨rfl, rfl, rfl, rfl, rfl, trivial⟩ ?_
  refine tw_still 7 mixed (by decide +kernel) (fun w4 k4 => ?_)
  replace hb1 := hb1.keep0 k4
  replace hb2 := hb2.keep0 k4
  replace hb3 := hb3.keep0 k4
  replace hB := hB.trans k4
  refine sw_g (g_mv rfl) rfl ?_
  refine sw_g (g_ixa Try.underlying26 ty24 rfl rfl (by decide)) rfl ?_
  refine sw_g (g_ldb sc24 rfl hb1 rfl) rfl ?_
  refine sw_g (g_mv rfl) rfl ?_
  refine sw_g (g_ixa Try.underlying26 ty24 rfl rfl (by decide)) rfl ?_
  refine sw_g (g_ldb sc24 rfl hb2 rfl) rfl ?_
  refine sw_gx (e' := (f 0) + (g 0)) (lo := 0) (hi := 9007199254740990) (g_addw rfl rfl) (wrap_fit (in_add f0 g0) rfl) (In.wk (in_add f0 g0) rfl) rfl (fun z4 h1 r1 => ?_)
  refine sw_nil ?_
  refine ow_g (g_ixa Try.underlying26 ty24 rfl rfl (by decide)) rfl ?_
  refine ow_d0 (d_st ty24 rfl rfl rfl hb1 rfl) ?_
  rintro _ w5 ⟨hb4, k5, z5⟩
  replace hb2 := hb2.keep k5 (fun hm => absurd (List.mem_singleton.1 hm) (Ne.symm ne_b1_b2))
  replace hb3 := hb3.keep k5 (fun hm => absurd (List.mem_singleton.1 hm) (Ne.symm ne_b1_b3))
  replace hB := hB.new k5 (fun x hx => .inl ((List.mem_singleton.1 hx) ▸ ge_b1))
  clear z5
  replace hb4 : Bk w5 b1 _ [.int .u64 z4, .int .u64 (f 1), .int .u64 (f 2), .int .u64 (f 3), .int .u64 (f 4)] := hb4
  refine ow_nil ?_
  refine tw_keep [(2, _), (3, _), (4, _), (6, _)] ⟨rfl, rfl, rfl, rfl, trivial⟩ ?_
  refine tw_b ?_
  refine tw_region ?_
  refine ow_g (g_fold (j := 1) (g_addw rfl rfl) (by decide)) rfl ?_
  refine ow_g (g_mv rfl) rfl ?_
  refine ow_nil ?_
  refine tw_keep [(2, _), (3, _), (4, _), (6, _)] ⟨rfl, rfl, rfl, rfl, trivial⟩ ?_
  refine tw_lp ?_
  refine tw_seq ?_
  refine tw_region ?_
  refine ow_g (g_lt rfl rfl) rfl ?_
  refine ow_nil ?_
  refine tw_keep [(2, _), (3, _), (4, _), (6, _), (7, _)] ⟨rfl, rfl, rfl, rfl, rfl, trivial⟩ ?_
  refine tw_seq ?_
  refine tw_ifT rfl (by decide) ?_
  refine tw_skip ?_
  refine tw_seq ?_
  refine tw_block ?_
  refine tw_seq ?_
  refine tw_region ?_
  refine ow_g (g_mv rfl) rfl ?_
  refine ow_g (g_as rfl) rfl ?_
  refine ow_nil ?_
  refine tw_keep [(2, _), (3, _), (4, _), (6, _), (5, _)] ⟨rfl, rfl, rfl, rfl, rfl, trivial⟩ ?_
  refine tw_still 7 mixed (by decide +kernel) (fun w6 k6 => ?_)
  replace hb2 := hb2.keep0 k6
  replace hb3 := hb3.keep0 k6
  replace hb4 := hb4.keep0 k6
  replace hB := hB.trans k6
  refine sw_g (g_mv rfl) rfl ?_
  refine sw_g (g_ixa Try.underlying26 ty24 rfl rfl (by decide)) rfl ?_
  refine sw_g (g_ldb sc24 rfl hb4 rfl) rfl ?_
  refine sw_g (g_mv rfl) rfl ?_
  refine sw_g (g_ixa Try.underlying26 ty24 rfl rfl (by decide)) rfl ?_
  refine sw_g (g_ldb sc24 rfl hb2 rfl) rfl ?_
  refine sw_gx (e' := (f 1) + (g 1)) (lo := 0) (hi := 9007199254740990) (g_addw rfl rfl) (wrap_fit (in_add f1 g1) rfl) (In.wk (in_add f1 g1) rfl) rfl (fun z6 h2 r2 => ?_)
  refine sw_nil ?_
  refine ow_g (g_ixa Try.underlying26 ty24 rfl rfl (by decide)) rfl ?_
  refine ow_d0 (d_st ty24 rfl rfl rfl hb4 rfl) ?_
  rintro _ w7 ⟨hb5, k7, z7⟩
  replace hb2 := hb2.keep k7 (fun hm => absurd (List.mem_singleton.1 hm) (Ne.symm ne_b1_b2))
  replace hb3 := hb3.keep k7 (fun hm => absurd (List.mem_singleton.1 hm) (Ne.symm ne_b1_b3))
  replace hB := hB.new k7 (fun x hx => .inl ((List.mem_singleton.1 hx) ▸ ge_b1))
  clear z7
  replace hb5 : Bk w7 b1 _ [.int .u64 z4, .int .u64 z6, .int .u64 (f 2), .int .u64 (f 3), .int .u64 (f 4)] := hb5
  refine ow_nil ?_
  refine tw_keep [(2, _), (3, _), (4, _), (6, _)] ⟨rfl, rfl, rfl, rfl, trivial⟩ ?_
  refine tw_b ?_
  refine tw_region ?_
  refine ow_g (g_fold (j := 2) (g_addw rfl rfl) (by decide)) rfl ?_
  refine ow_g (g_mv rfl) rfl ?_
  refine ow_nil ?_
  refine tw_keep [(2, _), (3, _), (4, _), (6, _)] ⟨rfl, rfl, rfl, rfl, trivial⟩ ?_
  refine tw_lp ?_
  refine tw_seq ?_
  refine tw_region ?_
  refine ow_g (g_lt rfl rfl) rfl ?_
  refine ow_nil ?_
  refine tw_keep [(2, _), (3, _), (4, _), (6, _), (7, _)] ⟨rfl, rfl, rfl, rfl, rfl, trivial⟩ ?_
  refine tw_seq ?_
  refine tw_ifT rfl (by decide) ?_
  refine tw_skip ?_
  refine tw_seq ?_
  refine tw_block ?_
  refine tw_seq ?_
  refine tw_region ?_
  refine ow_g (g_mv rfl) rfl ?_
  refine ow_g (g_as rfl) rfl ?_
  refine ow_nil ?_
  refine tw_keep [(2, _), (3, _), (4, _), (6, _), (5, _)] ⟨rfl, rfl, rfl, rfl, rfl, trivial⟩ ?_
  refine tw_still 7 mixed (by decide +kernel) (fun w8 k8 => ?_)
  replace hb2 := hb2.keep0 k8
  replace hb3 := hb3.keep0 k8
  replace hb5 := hb5.keep0 k8
  replace hB := hB.trans k8
  refine sw_g (g_mv rfl) rfl ?_
  refine sw_g (g_ixa Try.underlying26 ty24 rfl rfl (by decide)) rfl ?_
  refine sw_g (g_ldb sc24 rfl hb5 rfl) rfl ?_
  refine sw_g (g_mv rfl) rfl ?_
  refine sw_g (g_ixa Try.underlying26 ty24 rfl rfl (by decide)) rfl ?_
  refine sw_g (g_ldb sc24 rfl hb2 rfl) rfl ?_
  refine sw_gx (e' := (f 2) + (g 2)) (lo := 0) (hi := 9007199254740990) (g_addw rfl rfl) (wrap_fit (in_add f2 g2) rfl) (In.wk (in_add f2 g2) rfl) rfl (fun z8 h3 r3 => ?_)
  refine sw_nil ?_
  refine ow_g (g_ixa Try.underlying26 ty24 rfl rfl (by decide)) rfl ?_
  refine ow_d0 (d_st ty24 rfl rfl rfl hb5 rfl) ?_
  rintro _ w9 ⟨hb6, k9, z9⟩
  replace hb2 := hb2.keep k9 (fun hm => absurd (List.mem_singleton.1 hm) (Ne.symm ne_b1_b2))
  replace hb3 := hb3.keep k9 (fun hm => absurd (List.mem_singleton.1 hm) (Ne.symm ne_b1_b3))
  replace hB := hB.new k9 (fun x hx => .inl ((List.mem_singleton.1 hx) ▸ ge_b1))
  clear z9
  replace hb6 : Bk w9 b1 _ [.int .u64 z4, .int .u64 z6, .int .u64 z8, .int .u64 (f 3), .int .u64 (f 4)] := hb6
  refine ow_nil ?_
  refine tw_keep [(2, _), (3, _), (4, _), (6, _)] ⟨rfl, rfl, rfl, rfl, trivial⟩ ?_
  refine tw_b ?_
  refine tw_region ?_
  refine ow_g (g_fold (j := 3) (g_addw rfl rfl) (by decide)) rfl ?_
  refine ow_g (g_mv rfl) rfl ?_
  refine ow_nil ?_
  refine tw_keep [(2, _), (3, _), (4, _), (6, _)] ⟨rfl, rfl, rfl, rfl, trivial⟩ ?_
  refine tw_lp ?_
  refine tw_seq ?_
  refine tw_region ?_
  refine ow_g (g_lt rfl rfl) rfl ?_
  refine ow_nil ?_
  refine tw_keep [(2, _), (3, _), (4, _), (6, _), (7, _)] ⟨rfl, rfl, rfl, rfl, rfl, trivial⟩ ?_
  refine tw_seq ?_
  refine tw_ifT rfl (by decide) ?_
  refine tw_skip ?_
  refine tw_seq ?_
  refine tw_block ?_
  refine tw_seq ?_
  refine tw_region ?_
  refine ow_g (g_mv rfl) rfl ?_
  refine ow_g (g_as rfl) rfl ?_
  refine ow_nil ?_
  refine tw_keep [(2, _), (3, _), (4, _), (6, _), (5, _)] ⟨rfl, rfl, rfl, rfl, rfl, trivial⟩ ?_
  refine tw_still 7 mixed (by decide +kernel) (fun w10 k10 => ?_)
  replace hb2 := hb2.keep0 k10
  replace hb3 := hb3.keep0 k10
  replace hb6 := hb6.keep0 k10
  replace hB := hB.trans k10
  refine sw_g (g_mv rfl) rfl ?_
  refine sw_g (g_ixa Try.underlying26 ty24 rfl rfl (by decide)) rfl ?_
  refine sw_g (g_ldb sc24 rfl hb6 rfl) rfl ?_
  refine sw_g (g_mv rfl) rfl ?_
  refine sw_g (g_ixa Try.underlying26 ty24 rfl rfl (by decide)) rfl ?_
  refine sw_g (g_ldb sc24 rfl hb2 rfl) rfl ?_
  refine sw_gx (e' := (f 3) + (g 3)) (lo := 0) (hi := 9007199254740990) (g_addw rfl rfl) (wrap_fit (in_add f3 g3) rfl) (In.wk (in_add f3 g3) rfl) rfl (fun z10 h4 r4 => ?_)
  refine sw_nil ?_
  refine ow_g (g_ixa Try.underlying26 ty24 rfl rfl (by decide)) rfl ?_
  refine ow_d0 (d_st ty24 rfl rfl rfl hb6 rfl) ?_
  rintro _ w11 ⟨hb7, k11, z11⟩
  replace hb2 := hb2.keep k11 (fun hm => absurd (List.mem_singleton.1 hm) (Ne.symm ne_b1_b2))
  replace hb3 := hb3.keep k11 (fun hm => absurd (List.mem_singleton.1 hm) (Ne.symm ne_b1_b3))
  replace hB := hB.new k11 (fun x hx => .inl ((List.mem_singleton.1 hx) ▸ ge_b1))
  clear z11
  replace hb7 : Bk w11 b1 _ [.int .u64 z4, .int .u64 z6, .int .u64 z8, .int .u64 z10, .int .u64 (f 4)] := hb7
  refine ow_nil ?_
  refine tw_keep [(2, _), (3, _), (4, _), (6, _)] ⟨rfl, rfl, rfl, rfl, trivial⟩ ?_
  refine tw_b ?_
  refine tw_region ?_
  refine ow_g (g_fold (j := 4) (g_addw rfl rfl) (by decide)) rfl ?_
  refine ow_g (g_mv rfl) rfl ?_
  refine ow_nil ?_
  refine tw_keep [(2, _), (3, _), (4, _), (6, _)] ⟨rfl, rfl, rfl, rfl, trivial⟩ ?_
  refine tw_lp ?_
  refine tw_seq ?_
  refine tw_region ?_
  refine ow_g (g_lt rfl rfl) rfl ?_
  refine ow_nil ?_
  refine tw_keep [(2, _), (3, _), (4, _), (6, _), (7, _)] ⟨rfl, rfl, rfl, rfl, rfl, trivial⟩ ?_
  refine tw_seq ?_
  refine tw_ifT rfl (by decide) ?_
  refine tw_skip ?_
  refine tw_seq ?_
  refine tw_block ?_
  refine tw_seq ?_
  refine tw_region ?_
  refine ow_g (g_mv rfl) rfl ?_
  refine ow_g (g_as rfl) rfl ?_
  refine ow_nil ?_
  refine tw_keep [(2, _), (3, _), (4, _), (6, _), (5, _)] ⟨rfl, rfl, rfl, rfl, rfl, trivial⟩ ?_
  refine tw_still 7 mixed (by decide +kernel) (fun w12 k12 => ?_)
  replace hb2 := hb2.keep0 k12
  replace hb3 := hb3.keep0 k12
  replace hb7 := hb7.keep0 k12
  replace hB := hB.trans k12
  refine sw_g (g_mv rfl) rfl ?_
  refine sw_g (g_ixa Try.underlying26 ty24 rfl rfl (by decide)) rfl ?_
  refine sw_g (g_ldb sc24 rfl hb7 rfl) rfl ?_
  refine sw_g (g_mv rfl) rfl ?_
  refine sw_g (g_ixa Try.underlying26 ty24 rfl rfl (by decide)) rfl ?_
  refine sw_g (g_ldb sc24 rfl hb2 rfl) rfl ?_
  refine sw_gx (e' := (f 4) + (g 4)) (lo := 0) (hi := 9007199254740990) (g_addw rfl rfl) (wrap_fit (in_add f4 g4) rfl) (In.wk (in_add f4 g4) rfl) rfl (fun z12 h5 r5 => ?_)
  refine sw_nil ?_
  refine ow_g (g_ixa Try.underlying26 ty24 rfl rfl (by decide)) rfl ?_
  refine ow_d0 (d_st ty24 rfl rfl rfl hb7 rfl) ?_
  rintro _ w13 ⟨hb8, k13, z13⟩
  replace hb2 := hb2.keep k13 (fun hm => absurd (List.mem_singleton.1 hm) (Ne.symm ne_b1_b2))
  replace hb3 := hb3.keep k13 (fun hm => absurd (List.mem_singleton.1 hm) (Ne.symm ne_b1_b3))
  replace hB := hB.new k13 (fun x hx => .inl ((List.mem_singleton.1 hx) ▸ ge_b1))
  clear z13
  replace hb8 : Bk w13 b1 _ [.int .u64 z4, .int .u64 z6, .int .u64 z8, .int .u64 z10, .int .u64 z12] := hb8
  refine ow_nil ?_
  refine tw_keep [(2, _), (3, _), (4, _), (6, _)] ⟨rfl, rfl, rfl, rfl, trivial⟩ ?_
  refine tw_b ?_
  refine tw_region ?_
  refine ow_g (g_fold (j := 5) (g_addw rfl rfl) (by decide)) rfl ?_
  refine ow_g (g_mv rfl) rfl ?_
  refine ow_nil ?_
  refine tw_keep [(2, _), (3, _), (4, _), (6, _)] ⟨rfl, rfl, rfl, rfl, trivial⟩ ?_
  refine tw_lp ?_
  refine tw_seq ?_
  refine tw_region ?_
  refine ow_g (g_lt rfl rfl) rfl ?_
  refine ow_nil ?_
  refine tw_keep [(2, _), (3, _), (4, _), (6, _), (7, _)] ⟨rfl, rfl, rfl, rfl, rfl, trivial⟩ ?_
  refine tw_seq ?_
  refine tw_ifF rfl (by decide) ?_
  refine tw_exit rfl ?_
  refine tw_seq ?_
  refine tw_region ?_
  refine ow_g (g_ldab (cs' := [_, _, _, _, _]) ag26 ty26 rfl hb8 rfl rfl) rfl ?_
  refine ow_d (d_call (vs := [_]) rfl (carry_any (vecN [z4, z6, z8, z10, z12]) (In.wk r1 rfl) (In.wk r2 rfl) (In.wk r3 rfl) (In.wk r4 rfl) (In.wk r5 rfl) _)) rfl ?_
  rintro _ w14 ⟨hh1, c01, c11, c21, c31, c41, rfl, e01, e11, e21, e31, e41, g01, g11, g21, g31, g41, gv1, k14⟩
  replace hb2 := hb2.keep0 k14
  replace hb3 := hb3.keep0 k14
  replace hb8 := hb8.keep0 k14
  replace hB := hB.trans k14
  replace e01 : c01 = z4 / 2251799813685248 := e01
  replace e11 : c11 = (z6 + c01) / 2251799813685248 := e11
  replace e21 : c21 = (z8 + c11) / 2251799813685248 := e21
  replace e31 : c31 = (z10 + c21) / 2251799813685248 := e31
  replace e41 : c41 = (z12 + c31) / 2251799813685248 := e41
  replace g01 : hh1 0 = z4 % 2251799813685248 + 19 * c41 := g01
  replace g11 : hh1 1 = (z6 + c01) % 2251799813685248 := g11
  replace g21 : hh1 2 = (z8 + c11) % 2251799813685248 := g21
  replace g31 : hh1 3 = (z10 + c21) % 2251799813685248 := g31
  replace g41 : hh1 4 = (z12 + c31) % 2251799813685248 := g41
  replace gv1 : val5 hh1 + c41 * 57896044618658097711785492504343953926634992332820282019728792003956564819949 = z4 + z6 * 2251799813685248 + z8 * 5070602400912917605986812821504 + z10 * 11417981541647679048466287755595961091061972992 + z12 * 25711008708143844408671393477458601640355247900524685364822016 := gv1
  obtain ⟨r6, r7, r8, r9, r10⟩ := carry_bounds (t := 2251799813685323) e01 e11 e21 e31 e41 g01 g11 g21 g31 g41 (In.wk r1 rfl : In _ 0 9007199254740990) (In.wk r2 rfl : In _ 0 9007199254740990) (In.wk r3 rfl : In _ 0 9007199254740990) (In.wk r4 rfl : In _ 0 9007199254740990) (In.wk r5 rfl : In _ 0 9007199254740990) rfl
  refine ow_d0 (d_sta ty26 rfl rfl rfl ivF_one hb3 rfl) ?_
  rintro _ w15 ⟨hb9, k15, z14⟩
  replace hb2 := hb2.keep k15 (fun hm => absurd (List.mem_singleton.1 hm) ne_b2_b3)
  replace hb8 := hb8.keep k15 (fun hm => absurd (List.mem_singleton.1 hm) ne_b1_b3)
  replace hB := hB.new k15 (fun x hx => .inl ((List.mem_singleton.1 hx) ▸ ge_b3))
  clear z14
  replace hb9 : Bk w15 b3 _ [.int .u64 (hh1 0), .int .u64 (hh1 1), .int .u64 (hh1 2), .int .u64 (hh1 3), .int .u64 (hh1 4)] := hb9
  refine ow_nil ?_
  refine tw_keep [(4, _)] ⟨rfl, trivial⟩ ?_
  refine tw_retc hfin Try.results73 rfl (run_loadAgg ag26 ty26 (by assumption) rfl)  ?_
  simp only [Eqn, In] at h1 r1 h2 r2 h3 r3 h4 r4 h5 r5 f0 f1 f2 f3 f4 g0 g1 g2 g3 g4
  exact ⟨hh1, rfl, ⟨(In.wk r6 rfl), (In.wk r7 rfl), (In.wk r8 rfl), (In.wk r9 rfl), (In.wk r10 rfl), by rw [show val5 hh1 = val5 f + val5 g + (-c41) * 57896044618658097711785492504343953926634992332820282019728792003956564819949 from by unfold val5 at *; omega, fp_eq (b := val5 f + val5 g) (-c41) rfl, fp_add, hfv, hgv]⟩, hB⟩

set_option maxRecDepth 100000 in
theorem sub_any (f g : Nat → Int) (a b : Fp) (hf : El f a) (hg : El g b) (w : World) : Rets Try.prog 72 [.agg (iv .u64 5 f).toArray, .agg (iv .u64 5 g).toArray] w (fun v w' => ∃ h, v = .agg (iv .u64 5 h).toArray ∧ El h (a - b) ∧ Keep [] w w') := by
  have hB : Keep [] w w := Keep.refl _ _
  obtain ⟨f0, f1, f2, f3, f4, hfv⟩ := hf
  obtain ⟨g0, g1, g2, g3, g4, hgv⟩ := hg
  refine rets_of_tw Try.func72 rfl (by decide) Try.ntmps72 rfl (fun fin _ hfin => ?_)
  refine tw_seq ?_
  refine tw_region ?_
  refine ow_d (d_box (cs := [.int .u64 (f 0), .int .u64 (f 1), .int .u64 (f 2), .int .u64 (f 3), .int .u64 (f 4)]) rfl rfl) rfl ?_
  rintro _ w1 ⟨b1, rfl, eb1, hb1, k1, z1⟩
  have ge_b1 : w.heap.size ≤ b1 := by have := hB.size; omega
  replace hB := hB.trans k1
  clear eb1 z1
  refine ow_d (d_box (cs := [.int .u64 (g 0), .int .u64 (g 1), .int .u64 (g 2), .int .u64 (g 3), .int .u64 (g 4)]) rfl rfl) rfl ?_
  rintro _ w2 ⟨b2, rfl, eb2, hb2, k2, z2⟩
  have ge_b2 : w.heap.size ≤ b2 := by have := hB.size; omega
  have ne_b1_b2 : b1 ≠ b2 := by have := hb1.lt; omega
  replace hb1 := hb1.keep0 k2
  replace hB := hB.trans k2
  clear eb2 z2
  refine ow_d (d_alloc ty26) rfl ?_
  rintro _ w3 ⟨b3, rfl, eb3, hb3, k3, z3⟩
  have ge_b3 : w.heap.size ≤ b3 := by have := hB.size; omega
  have ne_b1_b3 : b1 ≠ b3 := by have := hb1.lt; omega
  have ne_b2_b3 : b2 ≠ b3 := by have := hb2.lt; omega
  replace hb1 := hb1.keep0 k3
  replace hb2 := hb2.keep0 k3
  replace hB := hB.trans k3
  clear eb3 z3
  refine ow_nil ?_
  refine tw_keep [(2, _), (3, _), (4, _)] ⟨rfl, rfl, rfl, trivial⟩ ?_
  refine tw_seq ?_
  refine tw_region ?_
  refine ow_g (g_blda (idx := [0, 1, 2, 3, 4]) (xs := [.const (.int .u64 (4503599627370458)), .const (.int .u64 (4503599627370494)), .const (.int .u64 (4503599627370494)), .const (.int .u64 (4503599627370494)), .const (.int .u64 (4503599627370494))]) (vs := [_, _, _, _, _]) (css := [[.int .u64 4503599627370458], [.int .u64 4503599627370494], [.int .u64 4503599627370494], [.int .u64 4503599627370494], [.int .u64 4503599627370494]]) (out := [.int .u64 4503599627370458, .int .u64 4503599627370494, .int .u64 4503599627370494, .int .u64 4503599627370494, .int .u64 4503599627370494]) Try.underlying26 ty24 ty26 (arr_pls 5 1) rfl rfl ⟨rfl, rfl, rfl, rfl, rfl, trivial⟩ rfl rfl) rfl ?_
  refine ow_d (d_alloc ty26) rfl ?_
  rintro _ w4 ⟨b4, rfl, eb4, hb4, k4, z4⟩
  have ge_b4 : w.heap.size ≤ b4 := by have := hB.size; omega
  have ne_b1_b4 : b1 ≠ b4 := by have := hb1.lt; omega
  have ne_b2_b4 : b2 ≠ b4 := by have := hb2.lt; omega
  have ne_b3_b4 : b3 ≠ b4 := by have := hb3.lt; omega
  replace hb1 := hb1.keep0 k4
  replace hb2 := hb2.keep0 k4
  replace hb3 := hb3.keep0 k4
  replace hB := hB.trans k4
  clear eb4 z4
  refine ow_d0 (d_sta ty26 rfl rfl rfl (by simp only [List.forall_mem_cons]; refine ⟨rfl, rfl, rfl, rfl, rfl, fun v hv => by cases hv⟩) hb4 rfl) ?_
  rintro _ w5 ⟨hb5, k5, z5⟩
  replace hb1 := hb1.keep k5 (fun hm => absurd (List.mem_singleton.1 hm) ne_b1_b4)
  replace hb2 := hb2.keep k5 (fun hm => absurd (List.mem_singleton.1 hm) ne_b2_b4)
  replace hb3 := hb3.keep k5 (fun hm => absurd (List.mem_singleton.1 hm) ne_b3_b4)
  replace hB := hB.new k5 (fun x hx => .inl ((List.mem_singleton.1 hx) ▸ ge_b4))
  clear z5
  replace hb5 : Bk w5 b4 _ [.int .u64 4503599627370458, .int .u64 4503599627370494, .int .u64 4503599627370494, .int .u64 4503599627370494, .int .u64 4503599627370494] := hb5
  refine ow_nil ?_
  refine tw_keep [(2, _), (3, _), (4, _), (5, _)] ⟨rfl, rfl, rfl, rfl, trivial⟩ ?_
  refine tw_seq ?_
  refine tw_region ?_
  refine ow_g (g_ldab (cs' := [_, _, _, _, _]) ag26 ty26 rfl hb2 rfl rfl) rfl ?_
  refine ow_d (d_call (vs := [_]) rfl (carry_any g (In.wk g0 rfl) (In.wk g1 rfl) (In.wk g2 rfl) (In.wk g3 rfl) (In.wk g4 rfl) _)) rfl ?_
  rintro _ w6 ⟨hh1, c01, c11, c21, c31, c41, rfl, e01, e11, e21, e31, e41, g01, g11, g21, g31, g41, gv1, k6⟩
  replace hb1 := hb1.keep0 k6
  replace hb2 := hb2.keep0 k6
  replace hb3 := hb3.keep0 k6
  replace hb5 := hb5.keep0 k6
  replace hB := hB.trans k6
  obtain ⟨r1, r2, r3, r4, r5⟩ := carry_bounds (t := 2251799813685285) e01 e11 e21 e31 e41 g01 g11 g21 g31 g41 (In.wk g0 rfl : In _ 0 4503599627370495) (In.wk g1 rfl : In _ 0 4503599627370495) (In.wk g2 rfl : In _ 0 4503599627370495) (In.wk g3 rfl : In _ 0 4503599627370495) (In.wk g4 rfl : In _ 0 4503599627370495) rfl
  refine ow_d0 (d_sta ty26 rfl rfl rfl ivF_one hb2 rfl) ?_
  rintro _ w7 ⟨hb6, k7, z6⟩
  replace hb1 := hb1.keep k7 (fun hm => absurd (List.mem_singleton.1 hm) ne_b1_b2)
  replace hb3 := hb3.keep k7 (fun hm => absurd (List.mem_singleton.1 hm) (Ne.symm ne_b2_b3))
  replace hb5 := hb5.keep k7 (fun hm => absurd (List.mem_singleton.1 hm) (Ne.symm ne_b2_b4))
  replace hB := hB.new k7 (fun x hx => .inl ((List.mem_singleton.1 hx) ▸ ge_b2))
  clear z6
  replace hb6 : Bk w7 b2 _ [.int .u64 (hh1 0), .int .u64 (hh1 1), .int .u64 (hh1 2), .int .u64 (hh1 3), .int .u64 (hh1 4)] := hb6
  refine ow_nil ?_
  refine tw_keep [(2, _), (3, _), (4, _), (5, _)] ⟨rfl, rfl, rfl, rfl, trivial⟩ ?_
  refine tw_seq ?_
  refine tw_seq ?_
  refine tw_region ?_
  refine ow_g (g_mv rfl) rfl ?_
  refine ow_nil ?_
  refine tw_keep [(2, _), (3, _), (4, _), (5, _), (10, _)] ⟨rfl, rfl, rfl, rfl, rfl, trivial⟩ ?_
  refine tw_block ?_
  refine tw_unroll 5 ?_
  refine tw_seq ?_
  refine tw_region ?_
  refine ow_g (g_lt rfl rfl) rfl ?_
  refine ow_nil ?_
  refine tw_keep [(2, _), (3, _), (4, _), (5, _), (10, _), (11, _)] ⟨rfl, rfl, rfl, rfl, rfl, rfl, trivial⟩ ?_
  refine tw_seq ?_
  refine tw_ifT rfl (by decide) ?_
  refine tw_skip ?_
  refine tw_seq ?_
  refine tw_block ?_
  refine tw_seq ?_
  refine tw_region ?_
  refine ow_g (g_mv rfl) rfl ?_
  refine ow_g (g_as rfl) rfl ?_
  refine ow_nil ?_
  refine tw_keep [(2, _), (3, _), (4, _), (5, _), (10, _), (6, _)] ⟨rfl, rfl, rfl, rfl, rfl, rfl, trivial⟩ ?_
  refine tw_still 11 mixed (by decide +kernel) (fun w8 k8 => ?_)
  replace hb1 := hb1.keep0 k8
  replace hb3 := hb3.keep0 k8
  replace hb5 := hb5.keep0 k8
  replace hb6 := hb6.keep0 k8
  replace hB := hB.trans k8
  refine sw_g (g_mv rfl) rfl ?_
  refine sw_g (g_ixa Try.underlying26 ty24 rfl rfl (by decide)) rfl ?_
  refine sw_g (g_ldb sc24 rfl hb1 rfl) rfl ?_
  refine sw_g (g_mv rfl) rfl ?_
  refine sw_g (g_ixa Try.underlying26 ty24 rfl rfl (by decide)) rfl ?_
  refine sw_g (g_ldb sc24 rfl hb5 rfl) rfl ?_
  refine sw_g (g_mv rfl) rfl ?_
  refine sw_g (g_ixa Try.underlying26 ty24 rfl rfl (by decide)) rfl ?_
  refine sw_g (g_ldb sc24 rfl hb6 rfl) rfl ?_
  refine sw_gx (e' := 4503599627370458 - (hh1 0)) (lo := 2251799813685173) (hi := 4503599627370458) (g_subw rfl rfl) (wrap_fit (in_sub (in_c 4503599627370458) r1) rfl) (In.wk (in_sub (in_c 4503599627370458) r1) rfl) rfl (fun z7 h1 r6 => ?_)
  refine sw_gx (e' := (f 0) + z7) (lo := 2251799813685173) (hi := 9007199254740953) (g_addw rfl rfl) (wrap_fit (in_add f0 r6) rfl) (In.wk (in_add f0 r6) rfl) rfl (fun z8 h2 r7 => ?_)
  refine sw_nil ?_
  refine ow_g (g_ixa Try.underlying26 ty24 rfl rfl (by decide)) rfl ?_
  refine ow_d0 (d_st ty24 rfl rfl rfl hb1 rfl) ?_
  rintro _ w9 ⟨hb7, k9, z9⟩
  replace hb3 := hb3.keep k9 (fun hm => absurd (List.mem_singleton.1 hm) (Ne.symm ne_b1_b3))
  replace hb5 := hb5.keep k9 (fun hm => absurd (List.mem_singleton.1 hm) (Ne.symm ne_b1_b4))
  replace hb6 := hb6.keep k9 (fun hm => absurd (List.mem_singleton.1 hm) (Ne.symm ne_b1_b2))
  replace hB := hB.new k9 (fun x hx => .inl ((List.mem_singleton.1 hx) ▸ ge_b1))
  clear z9
  replace hb7 : Bk w9 b1 _ [.int .u64 z8, .int .u64 (f 1), .int .u64 (f 2), .int .u64 (f 3), .int .u64 (f 4)] := hb7
  refine ow_nil ?_
  refine tw_keep [(2, _), (3, _), (4, _), (5, _), (10, _)] ⟨rfl, rfl, rfl, rfl, rfl, trivial⟩ ?_
  refine tw_b ?_
  refine tw_region ?_
  refine ow_g (g_fold (j := 1) (g_addw rfl rfl) (by decide)) rfl ?_
  refine ow_g (g_mv rfl) rfl ?_
  refine ow_nil ?_
  refine tw_keep [(2, _), (3, _), (4, _), (5, _), (10, _)] ⟨rfl, rfl, rfl, rfl, rfl, trivial⟩ ?_
  refine tw_lp ?_
  refine tw_seq ?_
  refine tw_region ?_
  refine ow_g (g_lt rfl rfl) rfl ?_
  refine ow_nil ?_
  refine tw_keep [(2, _), (3, _), (4, _), (5, _), (10, _), (11, _)] ⟨rfl, rfl, rfl, rfl, rfl, rfl, trivial⟩ ?_
  refine tw_seq ?_
  refine tw_ifT rfl (by decide) ?_
  refine tw_skip ?_
  refine tw_seq ?_
  refine tw_block ?_
  refine tw_seq ?_
  refine tw_region ?_
  refine ow_g (g_mv rfl) rfl ?_
  refine ow_g (g_as rfl) rfl ?_
  refine ow_nil ?_
  refine tw_keep [(2, _), (3, _), (4, _), (5, _), (10, _), (6, _)] ⟨rfl, rfl, rfl, rfl, rfl, rfl, trivial⟩ ?_
  refine tw_still 11 mixed (by decide +kernel) (fun w10 k10 => ?_)
  replace hb3 := hb3.keep0 k10
  replace hb5 := hb5.keep0 k10
  replace hb6 := hb6.keep0 k10
  replace hb7 := hb7.keep0 k10
  replace hB := hB.trans k10
  refine sw_g (g_mv rfl) rfl ?_
  refine sw_g (g_ixa Try.underlying26 ty24 rfl rfl (by decide)) rfl ?_
  refine sw_g (g_ldb sc24 rfl hb7 rfl) rfl ?_
  refine sw_g (g_mv rfl) rfl ?_
  refine sw_g (g_ixa Try.underlying26 ty24 rfl rfl (by decide)) rfl ?_
  refine sw_g (g_ldb sc24 rfl hb5 rfl) rfl ?_
  refine sw_g (g_mv rfl) rfl ?_
  refine sw_g (g_ixa Try.underlying26 ty24 rfl rfl (by decide)) rfl ?_
  refine sw_g (g_ldb sc24 rfl hb6 rfl) rfl ?_
  refine sw_gx (e' := 4503599627370494 - (hh1 1)) (lo := 2251799813685247) (hi := 4503599627370494) (g_subw rfl rfl) (wrap_fit (in_sub (in_c 4503599627370494) r2) rfl) (In.wk (in_sub (in_c 4503599627370494) r2) rfl) rfl (fun z10 h3 r8 => ?_)
  refine sw_gx (e' := (f 1) + z10) (lo := 2251799813685247) (hi := 9007199254740989) (g_addw rfl rfl) (wrap_fit (in_add f1 r8) rfl) (In.wk (in_add f1 r8) rfl) rfl (fun z11 h4 r9 => ?_)
  refine sw_nil ?_
  refine ow_g (g_ixa Try.underlying26 ty24 rfl rfl (by decide)) rfl ?_
  refine ow_d0 (d_st ty24 rfl rfl rfl hb7 rfl) ?_
  rintro _ w11 ⟨hb8, k11, z12⟩
  replace hb3 := hb3.keep k11 (fun hm => absurd (List.mem_singleton.1 hm) (Ne.symm ne_b1_b3))
  replace hb5 := hb5.keep k11 (fun hm => absurd (List.mem_singleton.1 hm) (Ne.symm ne_b1_b4))
  replace hb6 := hb6.keep k11 (fun hm => absurd (List.mem_singleton.1 hm) (Ne.symm ne_b1_b2))
  replace hB := hB.new k11 (fun x hx => .inl ((List.mem_singleton.1 hx) ▸ ge_b1))
  clear z12
  replace hb8 : Bk w11 b1 _ [.int .u64 z8, .int .u64 z11, .int .u64 (f 2), .int .u64 (f 3), .int .u64 (f 4)] := hb8
  refine ow_nil ?_
  refine tw_keep [(2, _), (3, _), (4, _), (5, _), (10, _)] ⟨rfl, rfl, rfl, rfl, rfl, trivial⟩ ?_
  refine tw_b ?_
  refine tw_region ?_
  refine ow_g (g_fold (j := 2) (g_addw rfl rfl) (by decide)) rfl ?_
  refine ow_g (g_mv rfl) rfl ?_
  refine ow_nil ?_
  refine tw_keep [(2, _), (3, _), (4, _), (5, _), (10, _)] ⟨rfl, rfl, rfl, rfl, rfl, trivial⟩ ?_
  refine tw_lp ?_
  refine tw_seq ?_
  refine tw_region ?_
  refine ow_g (g_lt rfl rfl) rfl ?_
  refine ow_nil ?_
  refine tw_keep [(2, _), (3, _), (4, _), (5, _), (10, _), (11, _)] ⟨rfl, rfl, rfl, rfl, rfl, rfl, trivial⟩ ?_
  refine tw_seq ?_
  refine tw_ifT rfl (by decide) ?_
  refine tw_skip ?_
  refine tw_seq ?_
  refine tw_block ?_
  refine tw_seq ?_
  refine tw_region ?_
  refine ow_g (g_mv rfl) rfl ?_
  refine ow_g (g_as rfl) rfl ?_
  refine ow_nil ?_
  refine tw_keep [(2, _), (3, _), (4, _), (5, _), (10, _), (6, _)] ⟨rfl, rfl, rfl, rfl, rfl, rfl, trivial⟩ ?_
  refine tw_still 11 mixed (by decide +kernel) (fun w12 k12 => ?_)
  replace hb3 := hb3.keep0 k12
  replace hb5 := hb5.keep0 k12
  replace hb6 := hb6.keep0 k12
  replace hb8 := hb8.keep0 k12
  replace hB := hB.trans k12
  refine sw_g (g_mv rfl) rfl ?_
  refine sw_g (g_ixa Try.underlying26 ty24 rfl rfl (by decide)) rfl ?_
  refine sw_g (g_ldb sc24 rfl hb8 rfl) rfl ?_
  refine sw_g (g_mv rfl) rfl ?_
  refine sw_g (g_ixa Try.underlying26 ty24 rfl rfl (by decide)) rfl ?_
  refine sw_g (g_ldb sc24 rfl hb5 rfl) rfl ?_
  refine sw_g (g_mv rfl) rfl ?_
  refine sw_g (g_ixa Try.underlying26 ty24 rfl rfl (by decide)) rfl ?_
  refine sw_g (g_ldb sc24 rfl hb6 rfl) rfl ?_
  refine sw_gx (e' := 4503599627370494 - (hh1 2)) (lo := 2251799813685247) (hi := 4503599627370494) (g_subw rfl rfl) (wrap_fit (in_sub (in_c 4503599627370494) r3) rfl) (In.wk (in_sub (in_c 4503599627370494) r3) rfl) rfl (fun z13 h5 r10 => ?_)
  refine sw_gx (e' := (f 2) + z13) (lo := 2251799813685247) (hi := 9007199254740989) (g_addw rfl rfl) (wrap_fit (in_add f2 r10) rfl) (In.wk (in_add f2 r10) rfl) rfl (fun z14 h6 r11 => ?_)
  refine sw_nil ?_
  refine ow_g (g_ixa Try.underlying26 ty24 rfl rfl (by decide)) rfl ?_
  refine ow_d0 (d_st ty24 rfl rfl rfl hb8 rfl) ?_
  rintro _ w13 ⟨hb9, k13, z15⟩
  replace hb3 := hb3.keep k13 (fun hm => absurd (List.mem_singleton.1 hm) (Ne.symm ne_b1_b3))
  replace hb5 := hb5.keep k13 (fun hm => absurd (List.mem_singleton.1 hm) (Ne.symm ne_b1_b4))
  replace hb6 := hb6.keep k13 (fun hm => absurd (List.mem_singleton.1 hm) (Ne.symm ne_b1_b2))
  replace hB := hB.new k13 (fun x hx => .inl ((List.mem_singleton.1 hx) ▸ ge_b1))
  clear z15
  replace hb9 : Bk w13 b1 _ [.int .u64 z8, .int .u64 z11, .int .u64 z14, .int .u64 (f 3), .int .u64 (f 4)] := hb9
  refine ow_nil ?_
  refine tw_keep [(2, _), (3, _), (4, _), (5, _), (10, _)] ⟨rfl, rfl, rfl, rfl, rfl, trivial⟩ ?_
  refine tw_b ?_
  refine tw_region ?_
  refine ow_g (g_fold (j := 3) (g_addw rfl rfl) (by decide)) rfl ?_
  refine ow_g (g_mv rfl) rfl ?_
  refine ow_nil ?_
  refine tw_keep [(2, _), (3, _), (4, _), (5, _), (10, _)] ⟨rfl, rfl, rfl, rfl, rfl, trivial⟩ ?_
  refine tw_lp ?_
  refine tw_seq ?_
  refine tw_region ?_
  refine ow_g (g_lt rfl rfl) rfl ?_
  refine ow_nil ?_
  refine tw_keep [(2, _), (3, _), (4, _), (5, _), (10, _), (11, _)] ⟨rfl, rfl, rfl, rfl, rfl, rfl, trivial⟩ ?_
  refine tw_seq ?_
  refine tw_ifT rfl (by decide) ?_
  refine tw_skip ?_
  refine tw_seq ?_
  refine tw_block ?_
  refine tw_seq ?_
  refine tw_region ?_
  refine ow_g (g_mv rfl) rfl ?_
  refine ow_g (g_as rfl) rfl ?_
  refine ow_nil ?_
  refine tw_keep [(2, _), (3, _), (4, _), (5, _), (10, _), (6, _)] ⟨rfl, rfl, rfl, rfl, rfl, rfl, trivial⟩ ?_
  refine tw_still 11 mixed (by decide +kernel) (fun w14 k14 => ?_)
  replace hb3 := hb3.keep0 k14
  replace hb5 := hb5.keep0 k14
  replace hb6 := hb6.keep0 k14
  replace hb9 := hb9.keep0 k14
  replace hB := hB.trans k14
  refine sw_g (g_mv rfl) rfl ?_
  refine sw_g (g_ixa Try.underlying26 ty24 rfl rfl (by decide)) rfl ?_
  refine sw_g (g_ldb sc24 rfl hb9 rfl) rfl ?_
  refine sw_g (g_mv rfl) rfl ?_
  refine sw_g (g_ixa Try.underlying26 ty24 rfl rfl (by decide)) rfl ?_
  refine sw_g (g_ldb sc24 rfl hb5 rfl) rfl ?_
  refine sw_g (g_mv rfl) rfl ?_
  refine sw_g (g_ixa Try.underlying26 ty24 rfl rfl (by decide)) rfl ?_
  refine sw_g (g_ldb sc24 rfl hb6 rfl) rfl ?_
  refine sw_gx (e' := 4503599627370494 - (hh1 3)) (lo := 2251799813685247) (hi := 4503599627370494) (g_subw rfl rfl) (wrap_fit (in_sub (in_c 4503599627370494) r4) rfl) (In.wk (in_sub (in_c 4503599627370494) r4) rfl) rfl (fun z16 h7 r12 => ?_)
  refine sw_gx (e' := (f 3) + z16) (lo := 2251799813685247) (hi := 9007199254740989) (g_addw rfl rfl) (wrap_fit (in_add f3 r12) rfl) (In.wk (in_add f3 r12) rfl) rfl (fun z17 h8 r13 => ?_)
  refine sw_nil ?_
  refine ow_g (g_ixa Try.underlying26 ty24 rfl rfl (by decide)) rfl ?_
  refine ow_d0 (d_st ty24 rfl rfl rfl hb9 rfl) ?_
  rintro _ w15 ⟨hb10, k15, z18⟩
  replace hb3 := hb3.keep k15 (fun hm => absurd (List.mem_singleton.1 hm) (Ne.symm ne_b1_b3))
  replace hb5 := hb5.keep k15 (fun hm => absurd (List.mem_singleton.1 hm) (Ne.symm ne_b1_b4))
  replace hb6 := hb6.keep k15 (fun hm => absurd (List.mem_singleton.1 hm) (Ne.symm ne_b1_b2))
  replace hB := hB.new k15 (fun x hx => .inl ((List.mem_singleton.1 hx) ▸ ge_b1))
  clear z18
  replace hb10 : Bk w15 b1 _ [.int .u64 z8, .int .u64 z11, .int .u64 z14, .int .u64 z17, .int .u64 (f 4)] := hb10
  refine ow_nil ?_
  refine tw_keep [(2, _), (3, _), (4, _), (5, _), (10, _)] ⟨rfl, rfl, rfl, rfl, rfl, trivial⟩ ?_
  refine tw_b ?_
  refine tw_region ?_
  refine ow_g (g_fold (j := 4) (g_addw rfl rfl) (by decide)) rfl ?_
  refine ow_g (g_mv rfl) rfl ?_
  refine ow_nil ?_
  refine tw_keep [(2, _), (3, _), (4, _), (5, _), (10, _)] ⟨rfl, rfl, rfl, rfl, rfl, trivial⟩ ?_
  refine tw_lp ?_
  refine tw_seq ?_
  refine tw_region ?_
  refine ow_g (g_lt rfl rfl) rfl ?_
  refine ow_nil ?_
  refine tw_keep [(2, _), (3, _), (4, _), (5, _), (10, _), (11, _)] ⟨rfl, rfl, rfl, rfl, rfl, rfl, trivial⟩ ?_
  refine tw_seq ?_
  refine tw_ifT rfl (by decide) ?_
  refine tw_skip ?_
  refine tw_seq ?_
  refine tw_block ?_
  refine tw_seq ?_
  refine tw_region ?_
  refine ow_g (g_mv rfl) rfl ?_
  refine ow_g (g_as rfl) rfl ?_
  refine ow_nil ?_
  refine tw_keep [(2, _), (3, _), (4, _), (5, _), (10, _), (6, _)] ⟨rfl, rfl, rfl, rfl, rfl, rfl, trivial⟩ ?_
  refine tw_still 11 mixed (by decide +kernel) (fun w16 k16 => ?_)
  replace hb3 := hb3.keep0 k16
  replace hb5 := hb5.keep0 k16
  replace hb6 := hb6.keep0 k16
  replace hb10 := hb10.keep0 k16
  replace hB := hB.trans k16
  refine sw_g (g_mv rfl) rfl ?_
  refine sw_g (g_ixa Try.underlying26 ty24 rfl rfl (by decide)) rfl ?_
  refine sw_g (g_ldb sc24 rfl hb10 rfl) rfl ?_
  refine sw_g (g_mv rfl) rfl ?_
  refine sw_g (g_ixa Try.underlying26 ty24 rfl rfl (by decide)) rfl ?_
  refine sw_g (g_ldb sc24 rfl hb5 rfl) rfl ?_
  refine sw_g (g_mv rfl) rfl ?_
  refine sw_g (g_ixa Try.underlying26 ty24 rfl rfl (by decide)) rfl ?_
  refine sw_g (g_ldb sc24 rfl hb6 rfl) rfl ?_
  refine sw_gx (e' := 4503599627370494 - (hh1 4)) (lo := 2251799813685247) (hi := 4503599627370494) (g_subw rfl rfl) (wrap_fit (in_sub (in_c 4503599627370494) r5) rfl) (In.wk (in_sub (in_c 4503599627370494) r5) rfl) rfl (fun z19 h9 r14 => ?_)
  refine sw_gx (e' := (f 4) + z19) (lo := 2251799813685247) (hi := 9007199254740989) (g_addw rfl rfl) (wrap_fit (in_add f4 r14) rfl) (In.wk (in_add f4 r14) rfl) rfl (fun z20 h10 r15 => ?_)
  refine sw_nil ?_
  refine ow_g (g_ixa Try.underlying26 ty24 rfl rfl (by decide)) rfl ?_
  refine ow_d0 (d_st ty24 rfl rfl rfl hb10 rfl) ?_
  rintro _ w17 ⟨hb11, k17, z21⟩
  replace hb3 := hb3.keep k17 (fun hm => absurd (List.mem_singleton.1 hm) (Ne.symm ne_b1_b3))
  replace hb5 := hb5.keep k17 (fun hm => absurd (List.mem_singleton.1 hm) (Ne.symm ne_b1_b4))
  replace hb6 := hb6.keep k17 (fun hm => absurd (List.mem_singleton.1 hm) (Ne.symm ne_b1_b2))
  replace hB := hB.new k17 (fun x hx => .inl ((List.mem_singleton.1 hx) ▸ ge_b1))
  clear z21
  replace hb11 : Bk w17 b1 _ [.int .u64 z8, .int .u64 z11, .int .u64 z14, .int .u64 z17, .int .u64 z20] := hb11
  refine ow_nil ?_
  refine tw_keep [(2, _), (3, _), (4, _), (5, _), (10, _)] ⟨rfl, rfl, rfl, rfl, rfl, trivial⟩ ?_
  refine tw_b ?_
  refine tw_region ?_
  refine ow_g (g_fold (j := 5) (g_addw rfl rfl) (by decide)) rfl ?_
  refine ow_g (g_mv rfl) rfl ?_
  refine ow_nil ?_
  refine tw_keep [(2, _), (3, _), (4, _), (5, _), (10, _)] ⟨rfl, rfl, rfl, rfl, rfl, trivial⟩ ?_
  refine tw_lp ?_
  refine tw_seq ?_
  refine tw_region ?_
  refine ow_g (g_lt rfl rfl) rfl ?_
  refine ow_nil ?_
  refine tw_keep [(2, _), (3, _), (4, _), (5, _), (10, _), (11, _)] ⟨rfl, rfl, rfl, rfl, rfl, rfl, trivial⟩ ?_
  refine tw_seq ?_
  refine tw_ifF rfl (by decide) ?_
  refine tw_exit rfl ?_
  refine tw_seq ?_
  refine tw_region ?_
  refine ow_g (g_ldab (cs' := [_, _, _, _, _]) ag26 ty26 rfl hb11 rfl rfl) rfl ?_
  refine ow_d (d_call (vs := [_]) rfl (carry_any (vecN [z8, z11, z14, z17, z20]) (In.wk r7 rfl) (In.wk r9 rfl) (In.wk r11 rfl) (In.wk r13 rfl) (In.wk r15 rfl) _)) rfl ?_
  rintro _ w18 ⟨hh2, c02, c12, c22, c32, c42, rfl, e02, e12, e22, e32, e42, g02, g12, g22, g32, g42, gv2, k18⟩
  replace hb3 := hb3.keep0 k18
  replace hb5 := hb5.keep0 k18
  replace hb6 := hb6.keep0 k18
  replace hb11 := hb11.keep0 k18
  replace hB := hB.trans k18
  replace e02 : c02 = z8 / 2251799813685248 := e02
  replace e12 : c12 = (z11 + c02) / 2251799813685248 := e12
  replace e22 : c22 = (z14 + c12) / 2251799813685248 := e22
  replace e32 : c32 = (z17 + c22) / 2251799813685248 := e32
  replace e42 : c42 = (z20 + c32) / 2251799813685248 := e42
  replace g02 : hh2 0 = z8 % 2251799813685248 + 19 * c42 := g02
  replace g12 : hh2 1 = (z11 + c02) % 2251799813685248 := g12
  replace g22 : hh2 2 = (z14 + c12) % 2251799813685248 := g22
  replace g32 : hh2 3 = (z17 + c22) % 2251799813685248 := g32
  replace g42 : hh2 4 = (z20 + c32) % 2251799813685248 := g42
  replace gv2 : val5 hh2 + c42 * 57896044618658097711785492504343953926634992332820282019728792003956564819949 = z8 + z11 * 2251799813685248 + z14 * 5070602400912917605986812821504 + z17 * 11417981541647679048466287755595961091061972992 + z20 * 25711008708143844408671393477458601640355247900524685364822016 := gv2
  obtain ⟨r16, r17, r18, r19, r20⟩ := carry_bounds (t := 2251799813685323) e02 e12 e22 e32 e42 g02 g12 g22 g32 g42 (In.wk r7 rfl : In _ 0 9007199254740953) (In.wk r9 rfl : In _ 0 9007199254740989) (In.wk r11 rfl : In _ 0 9007199254740989) (In.wk r13 rfl : In _ 0 9007199254740989) (In.wk r15 rfl : In _ 0 9007199254740989) rfl
  refine ow_d0 (d_sta ty26 rfl rfl rfl ivF_one hb3 rfl) ?_
  rintro _ w19 ⟨hb12, k19, z22⟩
  replace hb5 := hb5.keep k19 (fun hm => absurd (List.mem_singleton.1 hm) (Ne.symm ne_b3_b4))
  replace hb6 := hb6.keep k19 (fun hm => absurd (List.mem_singleton.1 hm) ne_b2_b3)
  replace hb11 := hb11.keep k19 (fun hm => absurd (List.mem_singleton.1 hm) ne_b1_b3)
  replace hB := hB.new k19 (fun x hx => .inl ((List.mem_singleton.1 hx) ▸ ge_b3))
  clear z22
  replace hb12 : Bk w19 b3 _ [.int .u64 (hh2 0), .int .u64 (hh2 1), .int .u64 (hh2 2), .int .u64 (hh2 3), .int .u64 (hh2 4)] := hb12
  refine ow_nil ?_
  refine tw_keep [(4, _)] ⟨rfl, trivial⟩ ?_
  refine tw_retc hfin Try.results72 rfl (run_loadAgg ag26 ty26 (by assumption) rfl)  ?_
  simp only [Eqn, In] at h1 r6 h2 r7 h3 r8 h4 r9 h5 r10 h6 r11 h7 r12 h8 r13 h9 r14 h10 r15 f0 f1 f2 f3 f4 g0 g1 g2 g3 g4
  exact ⟨hh2, rfl, ⟨(In.wk r16 rfl), (In.wk r17 rfl), (In.wk r18 rfl), (In.wk r19 rfl), (In.wk r20 rfl), by rw [show val5 hh2 = val5 f - val5 g + (2 - c42 + c41) * 57896044618658097711785492504343953926634992332820282019728792003956564819949 from by unfold val5 at *; omega, fp_eq (b := val5 f - val5 g) (2 - c42 + c41) rfl, fp_sub, hfv, hgv]⟩, hB⟩

end Go.Proofs.Ytkngeapegpehpaa.W
