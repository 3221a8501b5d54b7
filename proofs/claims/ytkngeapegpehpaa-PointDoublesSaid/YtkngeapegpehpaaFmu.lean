import Derived.Test.YtkngeapegpehpaaFlp
namespace Go.Proofs.Ytkngeapegpehpaa.W
open Go Go.Eng Go.Byt
set_option linter.unusedVariables false
set_option linter.unusedSimpArgs false
open Go.Fld Go.Ed
set_option maxRecDepth 100000 in
set_option maxHeartbeats 1000000 in
theorem mul_any (f g : Nat → Int) (a b : Fp) (hf : El f a) (hg : El g b) (w : World) : Rets Try.prog 70 [.agg (iv .u64 5 f).toArray, .agg (iv .u64 5 g).toArray] w (fun v w' => ∃ h, v = .agg (iv .u64 5 h).toArray ∧ El h (a * b) ∧ Keep [] w w') := by
  have hB : Keep [] w w := Keep.refl _ _
  obtain ⟨f0, f1, f2, f3, f4, hfv⟩ := hf
  obtain ⟨g0, g1, g2, g3, g4, hgv⟩ := hg
  refine rets_of_tw Try.func70 rfl (by decide) Try.ntmps70 rfl (fun fin _ hfin => ?_)
  refine tw_seq ?_
  refine tw_region ?_
  refine ow_d (d_box (cs := [.int .u64 (f 0), .int .u64 (f 1), .int .u64 (f 2), .int .u64 (f 3), .int .u64 (f 4)]) rfl rfl) rfl ?_
  rintro _ w1 ⟨b1, rfl, eb1, hb1, k1, z1⟩
  have ge_b1 : w.heap.size ≤ b1 := by have := hB.size; omega
  replace hB := hB.trans k1
  clear eb1 z1
  refine ow_d (d_box (cs := [.int .u64 (g 0), .int .u64 (g 1), .int .u64 (g 2), .int .u64 (g 3), .int .u64 (g 4)]) rfl rfl) rfl ?_
  rintro _ w2 ⟨b2, rfl, eb2, hb2, k2, z2⟩
  have ge_b2 : w.heap.size ≤ b2 := by have := hB.size; omega
  have ne_b1_b2 : b1 ≠ b2 := by have := hb1.lt; omega
  replace hb1 := hb1.keep0 k2
  replace hB := hB.trans k2
  clear eb2 z2
  refine ow_d (d_alloc ty26) rfl ?_
  rintro _ w3 ⟨b3, rfl, eb3, hb3, k3, z3⟩
  have ge_b3 : w.heap.size ≤ b3 := by have := hB.size; omega
  have ne_b1_b3 : b1 ≠ b3 := by have := hb1.lt; omega
  have ne_b2_b3 : b2 ≠ b3 := by have := hb2.lt; omega
  replace hb1 := hb1.keep0 k3
  replace hb2 := hb2.keep0 k3
  replace hB := hB.trans k3
  clear eb3 z3
  refine ow_nil ?_
  refine tw_keep [(2, _), (3, _), (4, _)] ⟨rfl, rfl, rfl, trivial⟩ ?_
  refine tw_seq ?_
  refine tw_stillA mixed (by decide +kernel) (fun w4 k4 => ?_)
  replace hb1 := hb1.keep0 k4
  replace hb2 := hb2.keep0 k4
  replace hb3 := hb3.keep0 k4
  replace hB := hB.trans k4
  refine sw_g (g_ixa Try.underlying26 ty24 rfl rfl (by decide)) rfl ?_
  refine sw_g (g_ldb sc24 rfl hb2 rfl) rfl ?_
  refine sw_gx (e' := 19 * (g 1)) (lo := 0) (hi := 85568392920039405) (g_mulw rfl rfl) (wrap_fit (in_cmul g1 (by decide)) rfl) (In.wk (in_cmul g1 (by decide)) rfl) rfl (fun z4 h1 r1 => ?_)
  refine sw_g (g_ixa Try.underlying26 ty24 rfl rfl (by decide)) rfl ?_
  refine sw_g (g_ldb sc24 rfl hb2 rfl) rfl ?_
  refine sw_gx (e' := 19 * (g 2)) (lo := 0) (hi := 85568392920039405) (g_mulw rfl rfl) (wrap_fit (in_cmul g2 (by decide)) rfl) (In.wk (in_cmul g2 (by decide)) rfl) rfl (fun z5 h2 r2 => ?_)
  refine sw_g (g_ixa Try.underlying26 ty24 rfl rfl (by decide)) rfl ?_
  refine sw_g (g_ldb sc24 rfl hb2 rfl) rfl ?_
  refine sw_gx (e' := 19 * (g 3)) (lo := 0) (hi := 85568392920039405) (g_mulw rfl rfl) (wrap_fit (in_cmul g3 (by decide)) rfl) (In.wk (in_cmul g3 (by decide)) rfl) rfl (fun z6 h3 r3 => ?_)
  refine sw_g (g_ixa Try.underlying26 ty24 rfl rfl (by decide)) rfl ?_
  refine sw_g (g_ldb sc24 rfl hb2 rfl) rfl ?_
  refine sw_gx (e' := 19 * (g 4)) (lo := 0) (hi := 85568392920039405) (g_mulw rfl rfl) (wrap_fit (in_cmul g4 (by decide)) rfl) (In.wk (in_cmul g4 (by decide)) rfl) rfl (fun z7 h4 r4 => ?_)
  refine sw_g (g_as rfl) rfl ?_
  refine sw_g (g_as rfl) rfl ?_
  refine sw_g (g_as rfl) rfl ?_
  refine sw_g (g_as rfl) rfl ?_
  refine sw_nil ?_
  refine ow_nil ?_
  refine tw_keep [(2, _), (3, _), (4, _), (5, _), (6, _), (7, _), (8, _)] ⟨rfl, rfl, rfl, rfl, rfl, rfl, rfl, trivial⟩ ?_
  refine tw_seq ?_
  have gs1 := hB.size
  have lt1 := hb1.lt
  have lt2 := hb2.lt
  have lt3 := hb3.lt
  refine tw_planA 122 [0, 1, 2, 3, 4, 6, 7, 8, 10, 11, 12, 14, 15, 16, 18, 19, 20, 22, 23, 24, 25, 26, 28, 29, 30, 31, 33, 34, 35, 37, 38, 39, 41, 42, 43, 45, 46, 47, 48, 49, 51, 52, 53, 54, 56, 57, 58, 59, 61, 62, 63, 65, 66, 67, 69, 70, 71, 72, 73, 75, 76, 77, 78, 80, 81, 82, 83, 85, 86, 87, 88, 90, 91, 92, 94, 95, 96, 97, 98, 100, 101, 102, 103, 105, 106, 107, 108, 110, 111, 112, 113, 115, 116, 117, 118, 5, 9, 13, 17, 21, 27, 32, 36, 40, 44, 50, 55, 60, 64, 68, 74, 79, 84, 89, 93, 99, 104, 109, 114, 119, 120] [5, 9, 13, 17, 21, 27, 32, 36, 40, 44, 50, 55, 60, 64, 68, 74, 79, 84, 89, 93, 99, 104, 109, 114, 119] [] [(121, 108, [.int .u64 0, .int .u64 0, .int .u64 0, .int .u64 0, .int .u64 0, .int .u64 0, .int .u64 0, .int .u64 0, .int .u64 0, .int .u64 0])] mixed [(2, _), (3, _), (8, _), (7, _), (6, _), (5, _), (4, _)] ⟨rfl, rfl, rfl, rfl, rfl, rfl, rfl, trivial⟩ (by decide +kernel) (by decide) (by decide) ?_ (fun x hx => by cases hx) rfl (fun w5 k5 => ?_)
  · simp only [List.forall_mem_cons]; exact ⟨⟨_, _, _, _, _, _, rfl, ty108⟩, fun q hq => by cases hq⟩
  replace hb1 := hb1.keep0 k5
  replace hb2 := hb2.keep0 k5
  replace hb3 := hb3.keep0 k5
  replace hB := hB.trans k5
  refine pa_g [] rfl rfl trivial rfl (fun W' kk => g_bld (idx := []) (xs := []) (vs := []) (css := []) (out := [_, _]) pl106 ty106 rfl rfl trivial rfl rfl) ?_
  refine pa_g [(2, _)] rfl rfl ⟨rfl, trivial⟩ rfl (fun W' kk => g_ixa Try.underlying26 ty24 rfl rfl (by decide)) ?_
  refine pa_g [(29, _)] rfl rfl ⟨rfl, trivial⟩ rfl (fun W' kk => g_ldb sc24 rfl (Bk.keep0 hb1 kk) rfl) ?_
  refine pa_g [(3, _)] rfl rfl ⟨rfl, trivial⟩ rfl (fun W' kk => g_ixa Try.underlying26 ty24 rfl rfl (by decide)) ?_
  refine pa_g [(31, _)] rfl rfl ⟨rfl, trivial⟩ rfl (fun W' kk => g_ldb sc24 rfl (Bk.keep0 hb2 kk) rfl) ?_
  refine pa_g [(2, _)] rfl rfl ⟨rfl, trivial⟩ rfl (fun W' kk => g_ixa Try.underlying26 ty24 rfl rfl (by decide)) ?_
  refine pa_g [(34, _)] rfl rfl ⟨rfl, trivial⟩ rfl (fun W' kk => g_ldb sc24 rfl (Bk.keep0 hb1 kk) rfl) ?_
  refine pa_g [(8, _)] rfl rfl ⟨rfl, trivial⟩ rfl (fun W' kk => g_mv rfl) ?_
  refine pa_g [(2, _)] rfl rfl ⟨rfl, trivial⟩ rfl (fun W' kk => g_ixa Try.underlying26 ty24 rfl rfl (by decide)) ?_
  refine pa_g [(38, _)] rfl rfl ⟨rfl, trivial⟩ rfl (fun W' kk => g_ldb sc24 rfl (Bk.keep0 hb1 kk) rfl) ?_
  refine pa_g [(7, _)] rfl rfl ⟨rfl, trivial⟩ rfl (fun W' kk => g_mv rfl) ?_
  refine pa_g [(2, _)] rfl rfl ⟨rfl, trivial⟩ rfl (fun W' kk => g_ixa Try.underlying26 ty24 rfl rfl (by decide)) ?_
  refine pa_g [(42, _)] rfl rfl ⟨rfl, trivial⟩ rfl (fun W' kk => g_ldb sc24 rfl (Bk.keep0 hb1 kk) rfl) ?_
  refine pa_g [(6, _)] rfl rfl ⟨rfl, trivial⟩ rfl (fun W' kk => g_mv rfl) ?_
  refine pa_g [(2, _)] rfl rfl ⟨rfl, trivial⟩ rfl (fun W' kk => g_ixa Try.underlying26 ty24 rfl rfl (by decide)) ?_
  refine pa_g [(46, _)] rfl rfl ⟨rfl, trivial⟩ rfl (fun W' kk => g_ldb sc24 rfl (Bk.keep0 hb1 kk) rfl) ?_
  refine pa_g [(5, _)] rfl rfl ⟨rfl, trivial⟩ rfl (fun W' kk => g_mv rfl) ?_
  refine pa_g [] rfl rfl trivial rfl (fun W' kk => g_bld (idx := []) (xs := []) (vs := []) (css := []) (out := [_, _]) pl106 ty106 rfl rfl trivial rfl rfl) ?_
  refine pa_g [(2, _)] rfl rfl ⟨rfl, trivial⟩ rfl (fun W' kk => g_ixa Try.underlying26 ty24 rfl rfl (by decide)) ?_
  refine pa_g [(51, _)] rfl rfl ⟨rfl, trivial⟩ rfl (fun W' kk => g_ldb sc24 rfl (Bk.keep0 hb1 kk) rfl) ?_
  refine pa_g [(3, _)] rfl rfl ⟨rfl, trivial⟩ rfl (fun W' kk => g_ixa Try.underlying26 ty24 rfl rfl (by decide)) ?_
  refine pa_g [(53, _)] rfl rfl ⟨rfl, trivial⟩ rfl (fun W' kk => g_ldb sc24 rfl (Bk.keep0 hb2 kk) rfl) ?_
  refine pa_g [(2, _)] rfl rfl ⟨rfl, trivial⟩ rfl (fun W' kk => g_ixa Try.underlying26 ty24 rfl rfl (by decide)) ?_
  refine pa_g [(56, _)] rfl rfl ⟨rfl, trivial⟩ rfl (fun W' kk => g_ldb sc24 rfl (Bk.keep0 hb1 kk) rfl) ?_
  refine pa_g [(3, _)] rfl rfl ⟨rfl, trivial⟩ rfl (fun W' kk => g_ixa Try.underlying26 ty24 rfl rfl (by decide)) ?_
  refine pa_g [(58, _)] rfl rfl ⟨rfl, trivial⟩ rfl (fun W' kk => g_ldb sc24 rfl (Bk.keep0 hb2 kk) rfl) ?_
  refine pa_g [(2, _)] rfl rfl ⟨rfl, trivial⟩ rfl (fun W' kk => g_ixa Try.underlying26 ty24 rfl rfl (by decide)) ?_
  refine pa_g [(61, _)] rfl rfl ⟨rfl, trivial⟩ rfl (fun W' kk => g_ldb sc24 rfl (Bk.keep0 hb1 kk) rfl) ?_
  refine pa_g [(8, _)] rfl rfl ⟨rfl, trivial⟩ rfl (fun W' kk => g_mv rfl) ?_
  refine pa_g [(2, _)] rfl rfl ⟨rfl, trivial⟩ rfl (fun W' kk => g_ixa Try.underlying26 ty24 rfl rfl (by decide)) ?_
  refine pa_g [(65, _)] rfl rfl ⟨rfl, trivial⟩ rfl (fun W' kk => g_ldb sc24 rfl (Bk.keep0 hb1 kk) rfl) ?_
  refine pa_g [(7, _)] rfl rfl ⟨rfl, trivial⟩ rfl (fun W' kk => g_mv rfl) ?_
  refine pa_g [(2, _)] rfl rfl ⟨rfl, trivial⟩ rfl (fun W' kk => g_ixa Try.underlying26 ty24 rfl rfl (by decide)) ?_
  refine pa_g [(69, _)] rfl rfl ⟨rfl, trivial⟩ rfl (fun W' kk => g_ldb sc24 rfl (Bk.keep0 hb1 kk) rfl) ?_
  refine pa_g [(6, _)] rfl rfl ⟨rfl, trivial⟩ rfl (fun W' kk => g_mv rfl) ?_
  refine pa_g [] rfl rfl trivial rfl (fun W' kk => g_bld (idx := []) (xs := []) (vs := []) (css := []) (out := [_, _]) pl106 ty106 rfl rfl trivial rfl rfl) ?_
  refine pa_g [(2, _)] rfl rfl ⟨rfl, trivial⟩ rfl (fun W' kk => g_ixa Try.underlying26 ty24 rfl rfl (by decide)) ?_
  refine pa_g [(74, _)] rfl rfl ⟨rfl, trivial⟩ rfl (fun W' kk => g_ldb sc24 rfl (Bk.keep0 hb1 kk) rfl) ?_
  refine pa_g [(3, _)] rfl rfl ⟨rfl, trivial⟩ rfl (fun W' kk => g_ixa Try.underlying26 ty24 rfl rfl (by decide)) ?_
  refine pa_g [(76, _)] rfl rfl ⟨rfl, trivial⟩ rfl (fun W' kk => g_ldb sc24 rfl (Bk.keep0 hb2 kk) rfl) ?_
  refine pa_g [(2, _)] rfl rfl ⟨rfl, trivial⟩ rfl (fun W' kk => g_ixa Try.underlying26 ty24 rfl rfl (by decide)) ?_
  refine pa_g [(79, _)] rfl rfl ⟨rfl, trivial⟩ rfl (fun W' kk => g_ldb sc24 rfl (Bk.keep0 hb1 kk) rfl) ?_
  refine pa_g [(3, _)] rfl rfl ⟨rfl, trivial⟩ rfl (fun W' kk => g_ixa Try.underlying26 ty24 rfl rfl (by decide)) ?_
  refine pa_g [(81, _)] rfl rfl ⟨rfl, trivial⟩ rfl (fun W' kk => g_ldb sc24 rfl (Bk.keep0 hb2 kk) rfl) ?_
  refine pa_g [(2, _)] rfl rfl ⟨rfl, trivial⟩ rfl (fun W' kk => g_ixa Try.underlying26 ty24 rfl rfl (by decide)) ?_
  refine pa_g [(84, _)] rfl rfl ⟨rfl, trivial⟩ rfl (fun W' kk => g_ldb sc24 rfl (Bk.keep0 hb1 kk) rfl) ?_
  refine pa_g [(3, _)] rfl rfl ⟨rfl, trivial⟩ rfl (fun W' kk => g_ixa Try.underlying26 ty24 rfl rfl (by decide)) ?_
  refine pa_g [(86, _)] rfl rfl ⟨rfl, trivial⟩ rfl (fun W' kk => g_ldb sc24 rfl (Bk.keep0 hb2 kk) rfl) ?_
  refine pa_g [(2, _)] rfl rfl ⟨rfl, trivial⟩ rfl (fun W' kk => g_ixa Try.underlying26 ty24 rfl rfl (by decide)) ?_
  refine pa_g [(89, _)] rfl rfl ⟨rfl, trivial⟩ rfl (fun W' kk => g_ldb sc24 rfl (Bk.keep0 hb1 kk) rfl) ?_
  refine pa_g [(8, _)] rfl rfl ⟨rfl, trivial⟩ rfl (fun W' kk => g_mv rfl) ?_
  refine pa_g [(2, _)] rfl rfl ⟨rfl, trivial⟩ rfl (fun W' kk => g_ixa Try.underlying26 ty24 rfl rfl (by decide)) ?_
  refine pa_g [(93, _)] rfl rfl ⟨rfl, trivial⟩ rfl (fun W' kk => g_ldb sc24 rfl (Bk.keep0 hb1 kk) rfl) ?_
  refine pa_g [(7, _)] rfl rfl ⟨rfl, trivial⟩ rfl (fun W' kk => g_mv rfl) ?_
  refine pa_g [] rfl rfl trivial rfl (fun W' kk => g_bld (idx := []) (xs := []) (vs := []) (css := []) (out := [_, _]) pl106 ty106 rfl rfl trivial rfl rfl) ?_
  refine pa_g [(2, _)] rfl rfl ⟨rfl, trivial⟩ rfl (fun W' kk => g_ixa Try.underlying26 ty24 rfl rfl (by decide)) ?_
  refine pa_g [(98, _)] rfl rfl ⟨rfl, trivial⟩ rfl (fun W' kk => g_ldb sc24 rfl (Bk.keep0 hb1 kk) rfl) ?_
  refine pa_g [(3, _)] rfl rfl ⟨rfl, trivial⟩ rfl (fun W' kk => g_ixa Try.underlying26 ty24 rfl rfl (by decide)) ?_
  refine pa_g [(100, _)] rfl rfl ⟨rfl, trivial⟩ rfl (fun W' kk => g_ldb sc24 rfl (Bk.keep0 hb2 kk) rfl) ?_
  refine pa_g [(2, _)] rfl rfl ⟨rfl, trivial⟩ rfl (fun W' kk => g_ixa Try.underlying26 ty24 rfl rfl (by decide)) ?_
  refine pa_g [(103, _)] rfl rfl ⟨rfl, trivial⟩ rfl (fun W' kk => g_ldb sc24 rfl (Bk.keep0 hb1 kk) rfl) ?_
  refine pa_g [(3, _)] rfl rfl ⟨rfl, trivial⟩ rfl (fun W' kk => g_ixa Try.underlying26 ty24 rfl rfl (by decide)) ?_
  refine pa_g [(105, _)] rfl rfl ⟨rfl, trivial⟩ rfl (fun W' kk => g_ldb sc24 rfl (Bk.keep0 hb2 kk) rfl) ?_
  refine pa_g [(2, _)] rfl rfl ⟨rfl, trivial⟩ rfl (fun W' kk => g_ixa Try.underlying26 ty24 rfl rfl (by decide)) ?_
  refine pa_g [(108, _)] rfl rfl ⟨rfl, trivial⟩ rfl (fun W' kk => g_ldb sc24 rfl (Bk.keep0 hb1 kk) rfl) ?_
  refine pa_g [(3, _)] rfl rfl ⟨rfl, trivial⟩ rfl (fun W' kk => g_ixa Try.underlying26 ty24 rfl rfl (by decide)) ?_
  refine pa_g [(110, _)] rfl rfl ⟨rfl, trivial⟩ rfl (fun W' kk => g_ldb sc24 rfl (Bk.keep0 hb2 kk) rfl) ?_
  refine pa_g [(2, _)] rfl rfl ⟨rfl, trivial⟩ rfl (fun W' kk => g_ixa Try.underlying26 ty24 rfl rfl (by decide)) ?_
  refine pa_g [(113, _)] rfl rfl ⟨rfl, trivial⟩ rfl (fun W' kk => g_ldb sc24 rfl (Bk.keep0 hb1 kk) rfl) ?_
  refine pa_g [(3, _)] rfl rfl ⟨rfl, trivial⟩ rfl (fun W' kk => g_ixa Try.underlying26 ty24 rfl rfl (by decide)) ?_
  refine pa_g [(115, _)] rfl rfl ⟨rfl, trivial⟩ rfl (fun W' kk => g_ldb sc24 rfl (Bk.keep0 hb2 kk) rfl) ?_
  refine pa_g [(2, _)] rfl rfl ⟨rfl, trivial⟩ rfl (fun W' kk => g_ixa Try.underlying26 ty24 rfl rfl (by decide)) ?_
  refine pa_g [(118, _)] rfl rfl ⟨rfl, trivial⟩ rfl (fun W' kk => g_ldb sc24 rfl (Bk.keep0 hb1 kk) rfl) ?_
  refine pa_g [(8, _)] rfl rfl ⟨rfl, trivial⟩ rfl (fun W' kk => g_mv rfl) ?_
  refine pa_g [] rfl rfl trivial rfl (fun W' kk => g_bld (idx := []) (xs := []) (vs := []) (css := []) (out := [_, _]) pl106 ty106 rfl rfl trivial rfl rfl) ?_
  refine pa_g [(2, _)] rfl rfl ⟨rfl, trivial⟩ rfl (fun W' kk => g_ixa Try.underlying26 ty24 rfl rfl (by decide)) ?_
  refine pa_g [(123, _)] rfl rfl ⟨rfl, trivial⟩ rfl (fun W' kk => g_ldb sc24 rfl (Bk.keep0 hb1 kk) rfl) ?_
  refine pa_g [(3, _)] rfl rfl ⟨rfl, trivial⟩ rfl (fun W' kk => g_ixa Try.underlying26 ty24 rfl rfl (by decide)) ?_
  refine pa_g [(125, _)] rfl rfl ⟨rfl, trivial⟩ rfl (fun W' kk => g_ldb sc24 rfl (Bk.keep0 hb2 kk) rfl) ?_
  refine pa_g [(2, _)] rfl rfl ⟨rfl, trivial⟩ rfl (fun W' kk => g_ixa Try.underlying26 ty24 rfl rfl (by decide)) ?_
  refine pa_g [(128, _)] rfl rfl ⟨rfl, trivial⟩ rfl (fun W' kk => g_ldb sc24 rfl (Bk.keep0 hb1 kk) rfl) ?_
  refine pa_g [(3, _)] rfl rfl ⟨rfl, trivial⟩ rfl (fun W' kk => g_ixa Try.underlying26 ty24 rfl rfl (by decide)) ?_
  refine pa_g [(130, _)] rfl rfl ⟨rfl, trivial⟩ rfl (fun W' kk => g_ldb sc24 rfl (Bk.keep0 hb2 kk) rfl) ?_
  refine pa_g [(2, _)] rfl rfl ⟨rfl, trivial⟩ rfl (fun W' kk => g_ixa Try.underlying26 ty24 rfl rfl (by decide)) ?_
  refine pa_g [(133, _)] rfl rfl ⟨rfl, trivial⟩ rfl (fun W' kk => g_ldb sc24 rfl (Bk.keep0 hb1 kk) rfl) ?_
  refine pa_g [(3, _)] rfl rfl ⟨rfl, trivial⟩ rfl (fun W' kk => g_ixa Try.underlying26 ty24 rfl rfl (by decide)) ?_
  refine pa_g [(135, _)] rfl rfl ⟨rfl, trivial⟩ rfl (fun W' kk => g_ldb sc24 rfl (Bk.keep0 hb2 kk) rfl) ?_
  refine pa_g [(2, _)] rfl rfl ⟨rfl, trivial⟩ rfl (fun W' kk => g_ixa Try.underlying26 ty24 rfl rfl (by decide)) ?_
  refine pa_g [(138, _)] rfl rfl ⟨rfl, trivial⟩ rfl (fun W' kk => g_ldb sc24 rfl (Bk.keep0 hb1 kk) rfl) ?_
  refine pa_g [(3, _)] rfl rfl ⟨rfl, trivial⟩ rfl (fun W' kk => g_ixa Try.underlying26 ty24 rfl rfl (by decide)) ?_
  refine pa_g [(140, _)] rfl rfl ⟨rfl, trivial⟩ rfl (fun W' kk => g_ldb sc24 rfl (Bk.keep0 hb2 kk) rfl) ?_
  refine pa_g [(2, _)] rfl rfl ⟨rfl, trivial⟩ rfl (fun W' kk => g_ixa Try.underlying26 ty24 rfl rfl (by decide)) ?_
  refine pa_g [(143, _)] rfl rfl ⟨rfl, trivial⟩ rfl (fun W' kk => g_ldb sc24 rfl (Bk.keep0 hb1 kk) rfl) ?_
  refine pa_g [(3, _)] rfl rfl ⟨rfl, trivial⟩ rfl (fun W' kk => g_ixa Try.underlying26 ty24 rfl rfl (by decide)) ?_
  refine pa_g [(145, _)] rfl rfl ⟨rfl, trivial⟩ rfl (fun W' kk => g_ldb sc24 rfl (Bk.keep0 hb2 kk) rfl) ?_
  refine pa_d [(28, _), (30, _), (32, _)] rfl rfl ⟨rfl, rfl, rfl, trivial⟩ rfl (fun w7 k7 => ?_)
  replace hb1 := hb1.keep0 k7
  replace hb2 := hb2.keep0 k7
  replace hb3 := hb3.keep0 k7
  replace hB := hB.trans k7
  refine (d_call (vs := [_, _, _]) rfl (plus_any 0 0 (f 0) (g 0) 0 20282409603651661416747996545025 20282409603651661416747996545025 1099511627775 (by decide) (by decide) (In.wk f0 rfl) (In.wk g0 rfl) (by decide) (in_mul f0 g0 (by decide) (by decide)).2 (by decide) (by decide) (by decide) _)).mono ?_
  rintro _ w6 ⟨hi1, lo1, rfl, ra1, rb1, eq1, le1, k6⟩
  refine ⟨k6, (fun x hx => by have hx : x ∈ ([] : List Nat) := hx; cases hx), ?_⟩
  replace hb1 := hb1.keep0 k6
  replace hb2 := hb2.keep0 k6
  replace hb3 := hb3.keep0 k6
  replace hB := hB.trans k6
  refine pa_d [(33, _), (35, _), (36, _)] rfl rfl ⟨rfl, rfl, rfl, trivial⟩ rfl (fun w9 k9 => ?_)
  replace hb1 := hb1.keep0 k9
  replace hb2 := hb2.keep0 k9
  replace hb3 := hb3.keep0 k9
  replace hB := hB.trans k9
  refine (d_call (vs := [_, _, _]) rfl (plus_any hi1 lo1 (f 1) z7 20282409603651661416747996545025 385365782469381566918211934355475 405648192073033228334959930900500 21990232555519 (In.wk ra1 rfl) rb1 (In.wk f1 rfl) (In.wk r4 rfl) le1 (in_mul f1 r4 (by decide) (by decide)).2 (by decide) (by decide) (by decide) _)).mono ?_
  rintro _ w8 ⟨hi2, lo2, rfl, ra2, rb2, eq2, le2, k8⟩
  refine ⟨k8, (fun x hx => by have hx : x ∈ ([] : List Nat) := hx; cases hx), ?_⟩
  replace hb1 := hb1.keep0 k8
  replace hb2 := hb2.keep0 k8
  replace hb3 := hb3.keep0 k8
  replace hB := hB.trans k8
  refine pa_d [(37, _), (39, _), (40, _)] rfl rfl ⟨rfl, rfl, rfl, trivial⟩ rfl (fun w11 k11 => ?_)
  replace hb1 := hb1.keep0 k11
  replace hb2 := hb2.keep0 k11
  replace hb3 := hb3.keep0 k11
  replace hB := hB.trans k11
  refine (d_call (vs := [_, _, _]) rfl (plus_any hi2 lo2 (f 2) z6 405648192073033228334959930900500 385365782469381566918211934355475 791013974542414795253171865255975 42880953483263 (In.wk ra2 rfl) rb2 (In.wk f2 rfl) (In.wk r3 rfl) le2 (in_mul f2 r3 (by decide) (by decide)).2 (by decide) (by decide) (by decide) _)).mono ?_
  rintro _ w10 ⟨hi3, lo3, rfl, ra3, rb3, eq3, le3, k10⟩
  refine ⟨k10, (fun x hx => by have hx : x ∈ ([] : List Nat) := hx; cases hx), ?_⟩
  replace hb1 := hb1.keep0 k10
  replace hb2 := hb2.keep0 k10
  replace hb3 := hb3.keep0 k10
  replace hB := hB.trans k10
  refine pa_d [(41, _), (43, _), (44, _)] rfl rfl ⟨rfl, rfl, rfl, trivial⟩ rfl (fun w13 k13 => ?_)
  replace hb1 := hb1.keep0 k13
  replace hb2 := hb2.keep0 k13
  replace hb3 := hb3.keep0 k13
  replace hB := hB.trans k13
  refine (d_call (vs := [_, _, _]) rfl (plus_any hi3 lo3 (f 3) z5 791013974542414795253171865255975 385365782469381566918211934355475 1176379757011796362171383799611450 63771674411007 (In.wk ra3 rfl) rb3 (In.wk f3 rfl) (In.wk r2 rfl) le3 (in_mul f3 r2 (by decide) (by decide)).2 (by decide) (by decide) (by decide) _)).mono ?_
  rintro _ w12 ⟨hi4, lo4, rfl, ra4, rb4, eq4, le4, k12⟩
  refine ⟨k12, (fun x hx => by have hx : x ∈ ([] : List Nat) := hx; cases hx), ?_⟩
  replace hb1 := hb1.keep0 k12
  replace hb2 := hb2.keep0 k12
  replace hb3 := hb3.keep0 k12
  replace hB := hB.trans k12
  refine pa_d [(45, _), (47, _), (48, _)] rfl rfl ⟨rfl, rfl, rfl, trivial⟩ rfl (fun w15 k15 => ?_)
  replace hb1 := hb1.keep0 k15
  replace hb2 := hb2.keep0 k15
  replace hb3 := hb3.keep0 k15
  replace hB := hB.trans k15
  refine (d_call (vs := [_, _, _]) rfl (plus_any hi4 lo4 (f 4) z4 1176379757011796362171383799611450 385365782469381566918211934355475 1561745539481177929089595733966925 84662395338751 (In.wk ra4 rfl) rb4 (In.wk f4 rfl) (In.wk r1 rfl) le4 (in_mul f4 r1 (by decide) (by decide)).2 (by decide) (by decide) (by decide) _)).mono ?_
  rintro _ w14 ⟨hi5, lo5, rfl, ra5, rb5, eq5, le5, k14⟩
  refine ⟨k14, (fun x hx => by have hx : x ∈ ([] : List Nat) := hx; cases hx), ?_⟩
  replace hb1 := hb1.keep0 k14
  replace hb2 := hb2.keep0 k14
  replace hb3 := hb3.keep0 k14
  replace hB := hB.trans k14
  refine pa_d [(50, _), (52, _), (54, _)] rfl rfl ⟨rfl, rfl, rfl, trivial⟩ rfl (fun w17 k17 => ?_)
  replace hb1 := hb1.keep0 k17
  replace hb2 := hb2.keep0 k17
  replace hb3 := hb3.keep0 k17
  replace hB := hB.trans k17
  refine (d_call (vs := [_, _, _]) rfl (plus_any 0 0 (f 0) (g 1) 0 20282409603651661416747996545025 20282409603651661416747996545025 1099511627775 (by decide) (by decide) (In.wk f0 rfl) (In.wk g1 rfl) (by decide) (in_mul f0 g1 (by decide) (by decide)).2 (by decide) (by decide) (by decide) _)).mono ?_
  rintro _ w16 ⟨hi6, lo6, rfl, ra6, rb6, eq6, le6, k16⟩
  refine ⟨k16, (fun x hx => by have hx : x ∈ ([] : List Nat) := hx; cases hx), ?_⟩
  replace hb1 := hb1.keep0 k16
  replace hb2 := hb2.keep0 k16
  replace hb3 := hb3.keep0 k16
  replace hB := hB.trans k16
  refine pa_d [(55, _), (57, _), (59, _)] rfl rfl ⟨rfl, rfl, rfl, trivial⟩ rfl (fun w19 k19 => ?_)
  replace hb1 := hb1.keep0 k19
  replace hb2 := hb2.keep0 k19
  replace hb3 := hb3.keep0 k19
  replace hB := hB.trans k19
  refine (d_call (vs := [_, _, _]) rfl (plus_any hi6 lo6 (f 1) (g 0) 20282409603651661416747996545025 20282409603651661416747996545025 40564819207303322833495993090050 2199023255551 (In.wk ra6 rfl) rb6 (In.wk f1 rfl) (In.wk g0 rfl) le6 (in_mul f1 g0 (by decide) (by decide)).2 (by decide) (by decide) (by decide) _)).mono ?_
  rintro _ w18 ⟨hi7, lo7, rfl, ra7, rb7, eq7, le7, k18⟩
  refine ⟨k18, (fun x hx => by have hx : x ∈ ([] : List Nat) := hx; cases hx), ?_⟩
  replace hb1 := hb1.keep0 k18
  replace hb2 := hb2.keep0 k18
  replace hb3 := hb3.keep0 k18
  replace hB := hB.trans k18
  refine pa_d [(60, _), (62, _), (63, _)] rfl rfl ⟨rfl, rfl, rfl, trivial⟩ rfl (fun w21 k21 => ?_)
  replace hb1 := hb1.keep0 k21
  replace hb2 := hb2.keep0 k21
  replace hb3 := hb3.keep0 k21
  replace hB := hB.trans k21
  refine (d_call (vs := [_, _, _]) rfl (plus_any hi7 lo7 (f 2) z7 40564819207303322833495993090050 385365782469381566918211934355475 425930601676684889751707927445525 23089744183295 (In.wk ra7 rfl) rb7 (In.wk f2 rfl) (In.wk r4 rfl) le7 (in_mul f2 r4 (by decide) (by decide)).2 (by decide) (by decide) (by decide) _)).mono ?_
  rintro _ w20 ⟨hi8, lo8, rfl, ra8, rb8, eq8, le8, k20⟩
  refine ⟨k20, (fun x hx => by have hx : x ∈ ([] : List Nat) := hx; cases hx), ?_⟩
  replace hb1 := hb1.keep0 k20
  replace hb2 := hb2.keep0 k20
  replace hb3 := hb3.keep0 k20
  replace hB := hB.trans k20
  refine pa_d [(64, _), (66, _), (67, _)] rfl rfl ⟨rfl, rfl, rfl, trivial⟩ rfl (fun w23 k23 => ?_)
  replace hb1 := hb1.keep0 k23
  replace hb2 := hb2.keep0 k23
  replace hb3 := hb3.keep0 k23
  replace hB := hB.trans k23
  refine (d_call (vs := [_, _, _]) rfl (plus_any hi8 lo8 (f 3) z6 425930601676684889751707927445525 385365782469381566918211934355475 811296384146066456669919861801000 43980465111039 (In.wk ra8 rfl) rb8 (In.wk f3 rfl) (In.wk r3 rfl) le8 (in_mul f3 r3 (by decide) (by decide)).2 (by decide) (by decide) (by decide) _)).mono ?_
  rintro _ w22 ⟨hi9, lo9, rfl, ra9, rb9, eq9, le9, k22⟩
  refine ⟨k22, (fun x hx => by have hx : x ∈ ([] : List Nat) := hx; cases hx), ?_⟩
  replace hb1 := hb1.keep0 k22
  replace hb2 := hb2.keep0 k22
  replace hb3 := hb3.keep0 k22
  replace hB := hB.trans k22
  refine pa_d [(68, _), (70, _), (71, _)] rfl rfl ⟨rfl, rfl, rfl, trivial⟩ rfl (fun w25 k25 => ?_)
  replace hb1 := hb1.keep0 k25
  replace hb2 := hb2.keep0 k25
  replace hb3 := hb3.keep0 k25
  replace hB := hB.trans k25
  refine (d_call (vs := [_, _, _]) rfl (plus_any hi9 lo9 (f 4) z5 811296384146066456669919861801000 385365782469381566918211934355475 1196662166615448023588131796156475 64871186038783 (In.wk ra9 rfl) rb9 (In.wk f4 rfl) (In.wk r2 rfl) le9 (in_mul f4 r2 (by decide) (by decide)).2 (by decide) (by decide) (by decide) _)).mono ?_
  rintro _ w24 ⟨hi10, lo10, rfl, ra10, rb10, eq10, le10, k24⟩
  refine ⟨k24, (fun x hx => by have hx : x ∈ ([] : List Nat) := hx; cases hx), ?_⟩
  replace hb1 := hb1.keep0 k24
  replace hb2 := hb2.keep0 k24
  replace hb3 := hb3.keep0 k24
  replace hB := hB.trans k24
  refine pa_d [(73, _), (75, _), (77, _)] rfl rfl ⟨rfl, rfl, rfl, trivial⟩ rfl (fun w27 k27 => ?_)
  replace hb1 := hb1.keep0 k27
  replace hb2 := hb2.keep0 k27
  replace hb3 := hb3.keep0 k27
  replace hB := hB.trans k27
  refine (d_call (vs := [_, _, _]) rfl (plus_any 0 0 (f 0) (g 2) 0 20282409603651661416747996545025 20282409603651661416747996545025 1099511627775 (by decide) (by decide) (In.wk f0 rfl) (In.wk g2 rfl) (by decide) (in_mul f0 g2 (by decide) (by decide)).2 (by decide) (by decide) (by decide) _)).mono ?_
  rintro _ w26 ⟨hi11, lo11, rfl, ra11, rb11, eq11, le11, k26⟩
  refine ⟨k26, (fun x hx => by have hx : x ∈ ([] : List Nat) := hx; cases hx), ?_⟩
  replace hb1 := hb1.keep0 k26
  replace hb2 := hb2.keep0 k26
  replace hb3 := hb3.keep0 k26
  replace hB := hB.trans k26
  refine pa_d [(78, _), (80, _), (82, _)] rfl rfl ⟨rfl, rfl, rfl, trivial⟩ rfl (fun w29 k29 => ?_)
  replace hb1 := hb1.keep0 k29
  replace hb2 := hb2.keep0 k29
  replace hb3 := hb3.keep0 k29
  replace hB := hB.trans k29
  refine (d_call (vs := [_, _, _]) rfl (plus_any hi11 lo11 (f 1) (g 1) 20282409603651661416747996545025 20282409603651661416747996545025 40564819207303322833495993090050 2199023255551 (In.wk ra11 rfl) rb11 (In.wk f1 rfl) (In.wk g1 rfl) le11 (in_mul f1 g1 (by decide) (by decide)).2 (by decide) (by decide) (by decide) _)).mono ?_
  rintro _ w28 ⟨hi12, lo12, rfl, ra12, rb12, eq12, le12, k28⟩
  refine ⟨k28, (fun x hx => by have hx : x ∈ ([] : List Nat) := hx; cases hx), ?_⟩
  replace hb1 := hb1.keep0 k28
  replace hb2 := hb2.keep0 k28
  replace hb3 := hb3.keep0 k28
  replace hB := hB.trans k28
  refine pa_d [(83, _), (85, _), (87, _)] rfl rfl ⟨rfl, rfl, rfl, trivial⟩ rfl (fun w31 k31 => ?_)
  replace hb1 := hb1.keep0 k31
  replace hb2 := hb2.keep0 k31
  replace hb3 := hb3.keep0 k31
  replace hB := hB.trans k31
  refine (d_call (vs := [_, _, _]) rfl (plus_any hi12 lo12 (f 2) (g 0) 40564819207303322833495993090050 20282409603651661416747996545025 60847228810954984250243989635075 3298534883327 (In.wk ra12 rfl) rb12 (In.wk f2 rfl) (In.wk g0 rfl) le12 (in_mul f2 g0 (by decide) (by decide)).2 (by decide) (by decide) (by decide) _)).mono ?_
  rintro _ w30 ⟨hi13, lo13, rfl, ra13, rb13, eq13, le13, k30⟩
  refine ⟨k30, (fun x hx => by have hx : x ∈ ([] : List Nat) := hx; cases hx), ?_⟩
  replace hb1 := hb1.keep0 k30
  replace hb2 := hb2.keep0 k30
  replace hb3 := hb3.keep0 k30
  replace hB := hB.trans k30
  refine pa_d [(88, _), (90, _), (91, _)] rfl rfl ⟨rfl, rfl, rfl, trivial⟩ rfl (fun w33 k33 => ?_)
  replace hb1 := hb1.keep0 k33
  replace hb2 := hb2.keep0 k33
  replace hb3 := hb3.keep0 k33
  replace hB := hB.trans k33
  refine (d_call (vs := [_, _, _]) rfl (plus_any hi13 lo13 (f 3) z7 60847228810954984250243989635075 385365782469381566918211934355475 446213011280336551168455923990550 24189255811071 (In.wk ra13 rfl) rb13 (In.wk f3 rfl) (In.wk r4 rfl) le13 (in_mul f3 r4 (by decide) (by decide)).2 (by decide) (by decide) (by decide) _)).mono ?_
  rintro _ w32 ⟨hi14, lo14, rfl, ra14, rb14, eq14, le14, k32⟩
  refine ⟨k32, (fun x hx => by have hx : x ∈ ([] : List Nat) := hx; cases hx), ?_⟩
  replace hb1 := hb1.keep0 k32
  replace hb2 := hb2.keep0 k32
  replace hb3 := hb3.keep0 k32
  replace hB := hB.trans k32
  refine pa_d [(92, _), (94, _), (95, _)] rfl rfl ⟨rfl, rfl, rfl, trivial⟩ rfl (fun w35 k35 => ?_)
  replace hb1 := hb1.keep0 k35
  replace hb2 := hb2.keep0 k35
  replace hb3 := hb3.keep0 k35
  replace hB := hB.trans k35
  refine (d_call (vs := [_, _, _]) rfl (plus_any hi14 lo14 (f 4) z6 446213011280336551168455923990550 385365782469381566918211934355475 831578793749718118086667858346025 45079976738815 (In.wk ra14 rfl) rb14 (In.wk f4 rfl) (In.wk r3 rfl) le14 (in_mul f4 r3 (by decide) (by decide)).2 (by decide) (by decide) (by decide) _)).mono ?_
  rintro _ w34 ⟨hi15, lo15, rfl, ra15, rb15, eq15, le15, k34⟩
  refine ⟨k34, (fun x hx => by have hx : x ∈ ([] : List Nat) := hx; cases hx), ?_⟩
  replace hb1 := hb1.keep0 k34
  replace hb2 := hb2.keep0 k34
  replace hb3 := hb3.keep0 k34
  replace hB := hB.trans k34
  refine pa_d [(97, _), (99, _), (101, _)] rfl rfl ⟨rfl, rfl, rfl, trivial⟩ rfl (fun w37 k37 => ?_)
  replace hb1 := hb1.keep0 k37
  replace hb2 := hb2.keep0 k37
  replace hb3 := hb3.keep0 k37
  replace hB := hB.trans k37
  refine (d_call (vs := [_, _, _]) rfl (plus_any 0 0 (f 0) (g 3) 0 20282409603651661416747996545025 20282409603651661416747996545025 1099511627775 (by decide) (by decide) (In.wk f0 rfl) (In.wk g3 rfl) (by decide) (in_mul f0 g3 (by decide) (by decide)).2 (by decide) (by decide) (by decide) _)).mono ?_
  rintro _ w36 ⟨hi16, lo16, rfl, ra16, rb16, eq16, le16, k36⟩
  refine ⟨k36, (fun x hx => by have hx : x ∈ ([] : List Nat) := hx; cases hx), ?_⟩
  replace hb1 := hb1.keep0 k36
  replace hb2 := hb2.keep0 k36
  replace hb3 := hb3.keep0 k36
  replace hB := hB.trans k36
  refine pa_d [(102, _), (104, _), (106, _)] rfl rfl ⟨rfl, rfl, rfl, trivial⟩ rfl (fun w39 k39 => ?_)
  replace hb1 := hb1.keep0 k39
  replace hb2 := hb2.keep0 k39
  replace hb3 := hb3.keep0 k39
  replace hB := hB.trans k39
  refine (d_call (vs := [_, _, _]) rfl (plus_any hi16 lo16 (f 1) (g 2) 20282409603651661416747996545025 20282409603651661416747996545025 40564819207303322833495993090050 2199023255551 (In.wk ra16 rfl) rb16 (In.wk f1 rfl) (In.wk g2 rfl) le16 (in_mul f1 g2 (by decide) (by decide)).2 (by decide) (by decide) (by decide) _)).mono ?_
  rintro _ w38 ⟨hi17, lo17, rfl, ra17, rb17, eq17, le17, k38⟩
  refine ⟨k38, (fun x hx => by have hx : x ∈ ([] : List Nat) := hx; cases hx), ?_⟩
  replace hb1 := hb1.keep0 k38
  replace hb2 := hb2.keep0 k38
  replace hb3 := hb3.keep0 k38
  replace hB := hB.trans k38
  refine pa_d [(107, _), (109, _), (111, _)] rfl rfl ⟨rfl, rfl, rfl, trivial⟩ rfl (fun w41 k41 => ?_)
  replace hb1 := hb1.keep0 k41
  replace hb2 := hb2.keep0 k41
  replace hb3 := hb3.keep0 k41
  replace hB := hB.trans k41
  refine (d_call (vs := [_, _, _]) rfl (plus_any hi17 lo17 (f 2) (g 1) 40564819207303322833495993090050 20282409603651661416747996545025 60847228810954984250243989635075 3298534883327 (In.wk ra17 rfl) rb17 (In.wk f2 rfl) (In.wk g1 rfl) le17 (in_mul f2 g1 (by decide) (by decide)).2 (by decide) (by decide) (by decide) _)).mono ?_
  rintro _ w40 ⟨hi18, lo18, rfl, ra18, rb18, eq18, le18, k40⟩
  refine ⟨k40, (fun x hx => by have hx : x ∈ ([] : List Nat) := hx; cases hx), ?_⟩
  replace hb1 := hb1.keep0 k40
  replace hb2 := hb2.keep0 k40
  replace hb3 := hb3.keep0 k40
  replace hB := hB.trans k40
  refine pa_d [(112, _), (114, _), (116, _)] rfl rfl ⟨rfl, rfl, rfl, trivial⟩ rfl (fun w43 k43 => ?_)
  replace hb1 := hb1.keep0 k43
  replace hb2 := hb2.keep0 k43
  replace hb3 := hb3.keep0 k43
  replace hB := hB.trans k43
  refine (d_call (vs := [_, _, _]) rfl (plus_any hi18 lo18 (f 3) (g 0) 60847228810954984250243989635075 20282409603651661416747996545025 81129638414606645666991986180100 4398046511103 (In.wk ra18 rfl) rb18 (In.wk f3 rfl) (In.wk g0 rfl) le18 (in_mul f3 g0 (by decide) (by decide)).2 (by decide) (by decide) (by decide) _)).mono ?_
  rintro _ w42 ⟨hi19, lo19, rfl, ra19, rb19, eq19, le19, k42⟩
  refine ⟨k42, (fun x hx => by have hx : x ∈ ([] : List Nat) := hx; cases hx), ?_⟩
  replace hb1 := hb1.keep0 k42
  replace hb2 := hb2.keep0 k42
  replace hb3 := hb3.keep0 k42
  replace hB := hB.trans k42
  refine pa_d [(117, _), (119, _), (120, _)] rfl rfl ⟨rfl, rfl, rfl, trivial⟩ rfl (fun w45 k45 => ?_)
  replace hb1 := hb1.keep0 k45
  replace hb2 := hb2.keep0 k45
  replace hb3 := hb3.keep0 k45
  replace hB := hB.trans k45
  refine (d_call (vs := [_, _, _]) rfl (plus_any hi19 lo19 (f 4) z7 81129638414606645666991986180100 385365782469381566918211934355475 466495420883988212585203920535575 25288767438847 (In.wk ra19 rfl) rb19 (In.wk f4 rfl) (In.wk r4 rfl) le19 (in_mul f4 r4 (by decide) (by decide)).2 (by decide) (by decide) (by decide) _)).mono ?_
  rintro _ w44 ⟨hi20, lo20, rfl, ra20, rb20, eq20, le20, k44⟩
  refine ⟨k44, (fun x hx => by have hx : x ∈ ([] : List Nat) := hx; cases hx), ?_⟩
  replace hb1 := hb1.keep0 k44
  replace hb2 := hb2.keep0 k44
  replace hb3 := hb3.keep0 k44
  replace hB := hB.trans k44
  refine pa_d [(122, _), (124, _), (126, _)] rfl rfl ⟨rfl, rfl, rfl, trivial⟩ rfl (fun w47 k47 => ?_)
  replace hb1 := hb1.keep0 k47
  replace hb2 := hb2.keep0 k47
  replace hb3 := hb3.keep0 k47
  replace hB := hB.trans k47
  refine (d_call (vs := [_, _, _]) rfl (plus_any 0 0 (f 0) (g 4) 0 20282409603651661416747996545025 20282409603651661416747996545025 1099511627775 (by decide) (by decide) (In.wk f0 rfl) (In.wk g4 rfl) (by decide) (in_mul f0 g4 (by decide) (by decide)).2 (by decide) (by decide) (by decide) _)).mono ?_
  rintro _ w46 ⟨hi21, lo21, rfl, ra21, rb21, eq21, le21, k46⟩
  refine ⟨k46, (fun x hx => by have hx : x ∈ ([] : List Nat) := hx; cases hx), ?_⟩
  replace hb1 := hb1.keep0 k46
  replace hb2 := hb2.keep0 k46
  replace hb3 := hb3.keep0 k46
  replace hB := hB.trans k46
  refine pa_d [(127, _), (129, _), (131, _)] rfl rfl ⟨rfl, rfl, rfl, trivial⟩ rfl (fun w49 k49 => ?_)
  replace hb1 := hb1.keep0 k49
  replace hb2 := hb2.keep0 k49
  replace hb3 := hb3.keep0 k49
  replace hB := hB.trans k49
  refine (d_call (vs := [_, _, _]) rfl (plus_any hi21 lo21 (f 1) (g 3) 20282409603651661416747996545025 20282409603651661416747996545025 40564819207303322833495993090050 2199023255551 (In.wk ra21 rfl) rb21 (In.wk f1 rfl) (In.wk g3 rfl) le21 (in_mul f1 g3 (by decide) (by decide)).2 (by decide) (by decide) (by decide) _)).mono ?_
  rintro _ w48 ⟨hi22, lo22, rfl, ra22, rb22, eq22, le22, k48⟩
  refine ⟨k48, (fun x hx => by have hx : x ∈ ([] : List Nat) := hx; cases hx), ?_⟩
  replace hb1 := hb1.keep0 k48
  replace hb2 := hb2.keep0 k48
  replace hb3 := hb3.keep0 k48
  replace hB := hB.trans k48
  refine pa_d [(132, _), (134, _), (136, _)] rfl rfl ⟨rfl, rfl, rfl, trivial⟩ rfl (fun w51 k51 => ?_)
  replace hb1 := hb1.keep0 k51
  replace hb2 := hb2.keep0 k51
  replace hb3 := hb3.keep0 k51
  replace hB := hB.trans k51
  refine (d_call (vs := [_, _, _]) rfl (plus_any hi22 lo22 (f 2) (g 2) 40564819207303322833495993090050 20282409603651661416747996545025 60847228810954984250243989635075 3298534883327 (In.wk ra22 rfl) rb22 (In.wk f2 rfl) (In.wk g2 rfl) le22 (in_mul f2 g2 (by decide) (by decide)).2 (by decide) (by decide) (by decide) _)).mono ?_
  rintro _ w50 ⟨hi23, lo23, rfl, ra23, rb23, eq23, le23, k50⟩
  refine ⟨k50, (fun x hx => by have hx : x ∈ ([] : List Nat) := hx; cases hx), ?_⟩
  replace hb1 := hb1.keep0 k50
  replace hb2 := hb2.keep0 k50
  replace hb3 := hb3.keep0 k50
  replace hB := hB.trans k50
  refine pa_d [(137, _), (139, _), (141, _)] rfl rfl ⟨rfl, rfl, rfl, trivial⟩ rfl (fun w53 k53 => ?_)
  replace hb1 := hb1.keep0 k53
  replace hb2 := hb2.keep0 k53
  replace hb3 := hb3.keep0 k53
  replace hB := hB.trans k53
  refine (d_call (vs := [_, _, _]) rfl (plus_any hi23 lo23 (f 3) (g 1) 60847228810954984250243989635075 20282409603651661416747996545025 81129638414606645666991986180100 4398046511103 (In.wk ra23 rfl) rb23 (In.wk f3 rfl) (In.wk g1 rfl) le23 (in_mul f3 g1 (by decide) (by decide)).2 (by decide) (by decide) (by decide) _)).mono ?_
  rintro _ w52 ⟨hi24, lo24, rfl, ra24, rb24, eq24, le24, k52⟩
  refine ⟨k52, (fun x hx => by have hx : x ∈ ([] : List Nat) := hx; cases hx), ?_⟩
  replace hb1 := hb1.keep0 k52
  replace hb2 := hb2.keep0 k52
  replace hb3 := hb3.keep0 k52
  replace hB := hB.trans k52
  refine pa_d [(142, _), (144, _), (146, _)] rfl rfl ⟨rfl, rfl, rfl, trivial⟩ rfl (fun w55 k55 => ?_)
  replace hb1 := hb1.keep0 k55
  replace hb2 := hb2.keep0 k55
  replace hb3 := hb3.keep0 k55
  replace hB := hB.trans k55
  refine (d_call (vs := [_, _, _]) rfl (plus_any hi24 lo24 (f 4) (g 0) 81129638414606645666991986180100 20282409603651661416747996545025 101412048018258307083739982725125 5497558138879 (In.wk ra24 rfl) rb24 (In.wk f4 rfl) (In.wk g0 rfl) le24 (in_mul f4 g0 (by decide) (by decide)).2 (by decide) (by decide) (by decide) _)).mono ?_
  rintro _ w54 ⟨hi25, lo25, rfl, ra25, rb25, eq25, le25, k54⟩
  refine ⟨k54, (fun x hx => by have hx : x ∈ ([] : List Nat) := hx; cases hx), ?_⟩
  replace hb1 := hb1.keep0 k54
  replace hb2 := hb2.keep0 k54
  replace hb3 := hb3.keep0 k54
  replace hB := hB.trans k54
  refine pa_g [(49, _), (72, _), (96, _), (121, _), (147, _)] rfl rfl ⟨rfl, rfl, rfl, rfl, rfl, trivial⟩ rfl (fun W' kk => g_blda (idx := [0, 1, 2, 3, 4]) (xs := [.tmp 49, .tmp 72, .tmp 96, .tmp 121, .tmp 147]) (vs := [_, _, _, _, _]) (css := [[.int .u64 hi5, .int .u64 lo5], [.int .u64 hi10, .int .u64 lo10], [.int .u64 hi15, .int .u64 lo15], [.int .u64 hi20, .int .u64 lo20], [.int .u64 hi25, .int .u64 lo25]]) (out := [.int .u64 hi5, .int .u64 lo5, .int .u64 hi10, .int .u64 lo10, .int .u64 hi15, .int .u64 lo15, .int .u64 hi20, .int .u64 lo20, .int .u64 hi25, .int .u64 lo25]) Try.underlying108 ty106 ty108 (arr_pls 5 2) rfl rfl ⟨rfl, rfl, rfl, rfl, rfl, trivial⟩ rfl rfl) ?_
  refine pa_nil (fun w56 k56 => ?_)
  replace hb1 := hb1.keep0 k56
  replace hb2 := hb2.keep0 k56
  replace hb3 := hb3.keep0 k56
  replace hB := hB.trans k56
  intro b4 eb4 lb1 hb4 ds1 sp1
  have ge_b4 : w.heap.size ≤ b4 := Nat.le_trans gs1 eb4
  have ne_b1_b4 : b1 ≠ b4 := Nat.ne_of_lt (Nat.lt_of_lt_of_le lt1 eb4)
  have ne_b2_b4 : b2 ≠ b4 := Nat.ne_of_lt (Nat.lt_of_lt_of_le lt2 eb4)
  have ne_b3_b4 : b3 ≠ b4 := Nat.ne_of_lt (Nat.lt_of_lt_of_le lt3 eb4)
  refine fina_nil ?_
  refine ow_d0 (d_sta ty108 rfl rfl rfl (by simp only [List.forall_mem_cons]; refine ⟨rfl, rfl, rfl, rfl, rfl, rfl, rfl, rfl, rfl, rfl, fun v hv => by cases hv⟩) hb4 rfl) ?_
  rintro _ w57 ⟨hb5, k57, z8⟩
  replace hb1 := hb1.keep k57 (fun hm => absurd (List.mem_singleton.1 hm) ne_b1_b4)
  replace hb2 := hb2.keep k57 (fun hm => absurd (List.mem_singleton.1 hm) ne_b2_b4)
  replace hb3 := hb3.keep k57 (fun hm => absurd (List.mem_singleton.1 hm) ne_b3_b4)
  replace hB := hB.new k57 (fun x hx => .inl ((List.mem_singleton.1 hx) ▸ ge_b4))
  clear z8
  replace hb5 : Bk w57 b4 _ [.int .u64 hi5, .int .u64 lo5, .int .u64 hi10, .int .u64 lo10, .int .u64 hi15, .int .u64 lo15, .int .u64 hi20, .int .u64 lo20, .int .u64 hi25, .int .u64 lo25] := hb5
  refine ow_nil ?_
  refine tw_keep [(4, _), (9, _)] ⟨rfl, rfl, trivial⟩ ?_
  refine tw_seq ?_
  refine tw_region ?_
  refine ow_d (d_alloc ty26) rfl ?_
  rintro _ w58 ⟨b5, rfl, eb5, hb6, k58, z9⟩
  have ge_b5 : w.heap.size ≤ b5 := by have := hB.size; omega
  have ne_b1_b5 : b1 ≠ b5 := by have := hb1.lt; omega
  have ne_b2_b5 : b2 ≠ b5 := by have := hb2.lt; omega
  have ne_b3_b5 : b3 ≠ b5 := by have := hb3.lt; omega
  have ne_b4_b5 : b4 ≠ b5 := by have := hb5.lt; omega
  replace hb1 := hb1.keep0 k58
  replace hb2 := hb2.keep0 k58
  replace hb3 := hb3.keep0 k58
  replace hb5 := hb5.keep0 k58
  replace hB := hB.trans k58
  clear eb5 z9
  refine ow_nil ?_
  refine tw_keep [(4, _), (9, _), (10, _)] ⟨rfl, rfl, rfl, trivial⟩ ?_
  refine tw_seq ?_
  refine tw_region ?_
  refine ow_g (g_as rfl) rfl ?_
  refine ow_nil ?_
  refine tw_keep [(4, _), (9, _), (10, _), (11, _)] ⟨rfl, rfl, rfl, rfl, trivial⟩ ?_
  refine tw_seq ?_
  refine tw_seq ?_
  refine tw_region ?_
  refine ow_g (g_ldab (cs' := [_, _, _, _, _, _, _, _, _, _]) ag108 ty108 rfl hb5 rfl rfl) rfl ?_
  refine ow_g (g_mv rfl) rfl ?_
  refine ow_nil ?_
  refine tw_keep [(4, _), (10, _), (11, _), (149, _), (150, _)] ⟨rfl, rfl, rfl, rfl, rfl, trivial⟩ ?_
  refine tw_block ?_
  refine tw_unroll 5 ?_
  refine tw_seq ?_
  refine tw_region ?_
  refine ow_g (g_lt rfl rfl) rfl ?_
  refine ow_nil ?_
  refine tw_keep [(4, _), (10, _), (11, _), (149, _), (150, _), (151, _)] ⟨rfl, rfl, rfl, rfl, rfl, rfl, trivial⟩ ?_
  refine tw_seq ?_
  refine tw_ifT rfl (by decide) ?_
  refine tw_skip ?_
  refine tw_seq ?_
  refine tw_block ?_
  refine tw_seq ?_
  refine tw_region ?_
  refine ow_g (g_mv rfl) rfl ?_
  refine ow_g (g_ixva (cs' := [_, _]) Try.underlying108 ty106 ag106 rfl rfl (by decide) rfl) rfl ?_
  refine ow_d (d_alloc ty106) rfl ?_
  rintro _ w59 ⟨b6, rfl, eb6, hb7, k59, z10⟩
  have ge_b6 : w.heap.size ≤ b6 := by have := hB.size; omega
  have ne_b1_b6 : b1 ≠ b6 := by have := hb1.lt; omega
  have ne_b2_b6 : b2 ≠ b6 := by have := hb2.lt; omega
  have ne_b3_b6 : b3 ≠ b6 := by have := hb3.lt; omega
  have ne_b4_b6 : b4 ≠ b6 := by have := hb5.lt; omega
  have ne_b5_b6 : b5 ≠ b6 := by have := hb6.lt; omega
  replace hb1 := hb1.keep0 k59
  replace hb2 := hb2.keep0 k59
  replace hb3 := hb3.keep0 k59
  replace hb5 := hb5.keep0 k59
  replace hb6 := hb6.keep0 k59
  replace hB := hB.trans k59
  clear eb6 z10
  refine ow_g (g_as rfl) rfl ?_
  refine ow_d0 (d_sta ty106 rfl rfl rfl (by simp only [List.forall_mem_cons]; refine ⟨rfl, rfl, fun v hv => by cases hv⟩) hb7 rfl) ?_
  rintro _ w60 ⟨hb8, k60, z11⟩
  replace hb1 := hb1.keep k60 (fun hm => absurd (List.mem_singleton.1 hm) ne_b1_b6)
  replace hb2 := hb2.keep k60 (fun hm => absurd (List.mem_singleton.1 hm) ne_b2_b6)
  replace hb3 := hb3.keep k60 (fun hm => absurd (List.mem_singleton.1 hm) ne_b3_b6)
  replace hb5 := hb5.keep k60 (fun hm => absurd (List.mem_singleton.1 hm) ne_b4_b6)
  replace hb6 := hb6.keep k60 (fun hm => absurd (List.mem_singleton.1 hm) ne_b5_b6)
  replace hB := hB.new k60 (fun x hx => .inl ((List.mem_singleton.1 hx) ▸ ge_b6))
  clear z11
  replace hb8 : Bk w60 b6 _ [.int .u64 hi5, .int .u64 lo5] := hb8
  refine ow_nil ?_
  refine tw_keep [(4, _), (10, _), (11, _), (149, _), (150, _), (13, _), (12, _)] ⟨rfl, rfl, rfl, rfl, rfl, rfl, rfl, trivial⟩ ?_
  refine tw_seq ?_
  refine tw_region ?_
  refine ow_g (g_fa Try.underlying106 rfl ty24 (by decide) rfl) rfl ?_
  refine ow_g (g_ldb sc24 rfl hb8 rfl) rfl ?_
  refine ow_g (g_mv rfl) rfl ?_
  refine ow_g (g_callv (vs := [_, _, _]) rfl (add64_run _ _ _ (In.wk rb5 rfl) (In.wk (in_c 0) rfl) (In.wk (in_c 0) rfl))) rfl ?_
  refine ow_g (g_mv rfl) rfl ?_
  refine ow_gx (e' := ((lo5 + 0 + 0) % 18446744073709551616)) (lo := 0) (hi := 18446744073709551615) (g_ext (vs := [_, _]) rfl rfl) (rfl) (In.wk (in_mod _ (by decide)) rfl) rfl (fun z12 h5 r5 => ?_)
  refine ow_gx (e' := ((lo5 + 0 + 0) / 18446744073709551616)) (lo := 0) (hi := 0) (g_ext (vs := [_, _]) rfl rfl) (rfl) (In.wk (in_div (in_add (in_add rb5 (in_c 0)) (in_c 0)) (by decide)) rfl) rfl (fun z13 h6 r6 => ?_)
  refine ow_g (g_as rfl) rfl ?_
  refine ow_g (g_as rfl) rfl ?_
  refine ow_nil ?_
  refine tw_keep [(4, _), (10, _), (149, _), (150, _), (13, _), (12, _), (14, _), (15, _)] ⟨rfl, rfl, rfl, rfl, rfl, rfl, rfl, rfl, trivial⟩ ?_
  refine tw_seq ?_
  refine tw_region ?_
  refine ow_g (g_mv rfl) rfl ?_
  refine ow_g (g_mv rfl) rfl ?_
  refine ow_gx (e' := z12 % 2251799813685248) (lo := 0) (hi := 2251799813685247) (g_and rfl rfl) (and_mod 51 r5 rfl rfl rfl rfl rfl rfl) (In.wk (in_mod _ (by decide)) rfl) rfl (fun z14 h7 r7 => ?_)
  refine ow_g (g_ixa Try.underlying26 ty24 rfl rfl (by decide)) rfl ?_
  refine ow_d0 (d_st ty24 rfl rfl rfl hb6 rfl) ?_
  rintro _ w61 ⟨hb9, k61, z15⟩
  replace hb1 := hb1.keep k61 (fun hm => absurd (List.mem_singleton.1 hm) ne_b1_b5)
  replace hb2 := hb2.keep k61 (fun hm => absurd (List.mem_singleton.1 hm) ne_b2_b5)
  replace hb3 := hb3.keep k61 (fun hm => absurd (List.mem_singleton.1 hm) ne_b3_b5)
  replace hb5 := hb5.keep k61 (fun hm => absurd (List.mem_singleton.1 hm) ne_b4_b5)
  replace hb8 := hb8.keep k61 (fun hm => absurd (List.mem_singleton.1 hm) (Ne.symm ne_b5_b6))
  replace hB := hB.new k61 (fun x hx => .inl ((List.mem_singleton.1 hx) ▸ ge_b5))
  clear z15
  replace hb9 : Bk w61 b5 _ [.int .u64 z14, .int .u64 0, .int .u64 0, .int .u64 0, .int .u64 0] := hb9
  refine ow_nil ?_
  refine tw_keep [(4, _), (10, _), (149, _), (150, _), (13, _), (14, _), (15, _)] ⟨rfl, rfl, rfl, rfl, rfl, rfl, rfl, trivial⟩ ?_
  refine tw_region ?_
  refine ow_g (g_fa Try.underlying106 rfl ty24 (by decide) rfl) rfl ?_
  refine ow_g (g_ldb sc24 rfl hb8 rfl) rfl ?_
  refine ow_g (g_mv rfl) rfl ?_
  refine ow_gx (e' := hi5 + z13) (lo := 0) (hi := 84662395338751) (g_addw rfl rfl) (wrap_fit (in_add ra5 r6) rfl) (In.wk (in_add ra5 r6) rfl) rfl (fun z16 h8 r8 => ?_)
  refine ow_gx (e' := z16 * 8192) (lo := 0) (hi := 693554342615048192) (g_shlp (m := 8192) rfl rfl (by decide) rfl) (wrap_fit (in_mulc r8 (by decide)) rfl) (In.wk (in_mulc r8 (by decide)) rfl) rfl (fun z17 h9 r9 => ?_)
  refine ow_g (g_mv rfl) rfl ?_
  refine ow_gx (e' := z12 / 2251799813685248) (lo := 0) (hi := 8191) (g_shrp (m := 2251799813685248) rfl rfl (by decide) rfl) (rfl) (In.wk (in_div r5 (by decide)) rfl) rfl (fun z18 h10 r10 => ?_)
  refine ow_gx (e' := z17 + z18) (lo := 0) (hi := 693554342615056383) (g_or rfl rfl) (or_join 13 (m := 8192) r9 rfl r10 rfl rfl rfl rfl (eq_mod h9 (Int.mul_emod_left _ _)) rfl rfl) (In.wk (in_add r9 r10) rfl) rfl (fun z19 h11 r11 => ?_)
  refine ow_g (g_as rfl) rfl ?_
  refine ow_nil ?_
  refine tw_keep [(4, _), (10, _), (149, _), (150, _), (11, _)] ⟨rfl, rfl, rfl, rfl, rfl, trivial⟩ ?_
  refine tw_b ?_
  refine tw_region ?_
  refine ow_g (g_fold (j := 1) (g_addw rfl rfl) (by decide)) rfl ?_
  refine ow_g (g_mv rfl) rfl ?_
  refine ow_nil ?_
  refine tw_keep [(4, _), (10, _), (149, _), (150, _), (11, _)] ⟨rfl, rfl, rfl, rfl, rfl, trivial⟩ ?_
  refine tw_lp ?_
  refine tw_seq ?_
  refine tw_region ?_
  refine ow_g (g_lt rfl rfl) rfl ?_
  refine ow_nil ?_
  refine tw_keep [(4, _), (10, _), (149, _), (150, _), (11, _), (151, _)] ⟨rfl, rfl, rfl, rfl, rfl, rfl, trivial⟩ ?_
  refine tw_seq ?_
  refine tw_ifT rfl (by decide) ?_
  refine tw_skip ?_
  refine tw_seq ?_
  refine tw_block ?_
  refine tw_seq ?_
  refine tw_region ?_
  refine ow_g (g_mv rfl) rfl ?_
  refine ow_g (g_ixva (cs' := [_, _]) Try.underlying108 ty106 ag106 rfl rfl (by decide) rfl) rfl ?_
  refine ow_d (d_alloc ty106) rfl ?_
  rintro _ w62 ⟨b7, rfl, eb7, hb10, k62, z20⟩
  have ge_b7 : w.heap.size ≤ b7 := by have := hB.size; omega
  have ne_b1_b7 : b1 ≠ b7 := by have := hb1.lt; omega
  have ne_b2_b7 : b2 ≠ b7 := by have := hb2.lt; omega
  have ne_b3_b7 : b3 ≠ b7 := by have := hb3.lt; omega
  have ne_b4_b7 : b4 ≠ b7 := by have := hb5.lt; omega
  have ne_b6_b7 : b6 ≠ b7 := by have := hb8.lt; omega
  have ne_b5_b7 : b5 ≠ b7 := by have := hb9.lt; omega
  replace hb1 := hb1.keep0 k62
  replace hb2 := hb2.keep0 k62
  replace hb3 := hb3.keep0 k62
  replace hb5 := hb5.keep0 k62
  replace hb8 := hb8.keep0 k62
  replace hb9 := hb9.keep0 k62
  replace hB := hB.trans k62
  clear eb7 z20
  refine ow_g (g_as rfl) rfl ?_
  refine ow_d0 (d_sta ty106 rfl rfl rfl (by simp only [List.forall_mem_cons]; refine ⟨rfl, rfl, fun v hv => by cases hv⟩) hb10 rfl) ?_
  rintro _ w63 ⟨hb11, k63, z21⟩
  replace hb1 := hb1.keep k63 (fun hm => absurd (List.mem_singleton.1 hm) ne_b1_b7)
  replace hb2 := hb2.keep k63 (fun hm => absurd (List.mem_singleton.1 hm) ne_b2_b7)
  replace hb3 := hb3.keep k63 (fun hm => absurd (List.mem_singleton.1 hm) ne_b3_b7)
  replace hb5 := hb5.keep k63 (fun hm => absurd (List.mem_singleton.1 hm) ne_b4_b7)
  replace hb8 := hb8.keep k63 (fun hm => absurd (List.mem_singleton.1 hm) ne_b6_b7)
  replace hb9 := hb9.keep k63 (fun hm => absurd (List.mem_singleton.1 hm) ne_b5_b7)
  replace hB := hB.new k63 (fun x hx => .inl ((List.mem_singleton.1 hx) ▸ ge_b7))
  clear z21
  replace hb11 : Bk w63 b7 _ [.int .u64 hi10, .int .u64 lo10] := hb11
  refine ow_nil ?_
  refine tw_keep [(4, _), (10, _), (149, _), (150, _), (11, _), (13, _), (12, _)] ⟨rfl, rfl, rfl, rfl, rfl, rfl, rfl, trivial⟩ ?_
  refine tw_seq ?_
  refine tw_region ?_
  refine ow_g (g_fa Try.underlying106 rfl ty24 (by decide) rfl) rfl ?_
  refine ow_g (g_ldb sc24 rfl hb11 rfl) rfl ?_
  refine ow_g (g_mv rfl) rfl ?_
  refine ow_g (g_callv (vs := [_, _, _]) rfl (add64_run _ _ _ (In.wk rb10 rfl) (In.wk r11 rfl) (In.wk (in_c 0) rfl))) rfl ?_
  refine ow_g (g_mv rfl) rfl ?_
  refine ow_gx (e' := ((lo10 + z19 + 0) % 18446744073709551616)) (lo := 0) (hi := 18446744073709551615) (g_ext (vs := [_, _]) rfl rfl) (rfl) (In.wk (in_mod _ (by decide)) rfl) rfl (fun z22 h12 r12 => ?_)
  refine ow_gx (e' := ((lo10 + z19 + 0) / 18446744073709551616)) (lo := 0) (hi := 1) (g_ext (vs := [_, _]) rfl rfl) (rfl) (In.wk (in_div (in_add (in_add rb10 r11) (in_c 0)) (by decide)) rfl) rfl (fun z23 h13 r13 => ?_)
  refine ow_g (g_as rfl) rfl ?_
  refine ow_g (g_as rfl) rfl ?_
  refine ow_nil ?_
  refine tw_keep [(4, _), (10, _), (149, _), (150, _), (13, _), (12, _), (14, _), (15, _)] ⟨rfl, rfl, rfl, rfl, rfl, rfl, rfl, rfl, trivial⟩ ?_
  refine tw_seq ?_
  refine tw_region ?_
  refine ow_g (g_mv rfl) rfl ?_
  refine ow_g (g_mv rfl) rfl ?_
  refine ow_gx (e' := z22 % 2251799813685248) (lo := 0) (hi := 2251799813685247) (g_and rfl rfl) (and_mod 51 r12 rfl rfl rfl rfl rfl rfl) (In.wk (in_mod _ (by decide)) rfl) rfl (fun z24 h14 r14 => ?_)
  refine ow_g (g_ixa Try.underlying26 ty24 rfl rfl (by decide)) rfl ?_
  refine ow_d0 (d_st ty24 rfl rfl rfl hb9 rfl) ?_
  rintro _ w64 ⟨hb12, k64, z25⟩
  replace hb1 := hb1.keep k64 (fun hm => absurd (List.mem_singleton.1 hm) ne_b1_b5)
  replace hb2 := hb2.keep k64 (fun hm => absurd (List.mem_singleton.1 hm) ne_b2_b5)
  replace hb3 := hb3.keep k64 (fun hm => absurd (List.mem_singleton.1 hm) ne_b3_b5)
  replace hb5 := hb5.keep k64 (fun hm => absurd (List.mem_singleton.1 hm) ne_b4_b5)
  replace hb8 := hb8.keep k64 (fun hm => absurd (List.mem_singleton.1 hm) (Ne.symm ne_b5_b6))
  replace hb11 := hb11.keep k64 (fun hm => absurd (List.mem_singleton.1 hm) (Ne.symm ne_b5_b7))
  replace hB := hB.new k64 (fun x hx => .inl ((List.mem_singleton.1 hx) ▸ ge_b5))
  clear z25
  replace hb12 : Bk w64 b5 _ [.int .u64 z14, .int .u64 z24, .int .u64 0, .int .u64 0, .int .u64 0] := hb12
  refine ow_nil ?_
  refine tw_keep [(4, _), (10, _), (149, _), (150, _), (13, _), (14, _), (15, _)] ⟨rfl, rfl, rfl, rfl, rfl, rfl, rfl, trivial⟩ ?_
  refine tw_region ?_
  refine ow_g (g_fa Try.underlying106 rfl ty24 (by decide) rfl) rfl ?_
  refine ow_g (g_ldb sc24 rfl hb11 rfl) rfl ?_
  refine ow_g (g_mv rfl) rfl ?_
  refine ow_gx (e' := hi10 + z23) (lo := 0) (hi := 64871186038784) (g_addw rfl rfl) (wrap_fit (in_add ra10 r13) rfl) (In.wk (in_add ra10 r13) rfl) rfl (fun z26 h15 r15 => ?_)
  refine ow_gx (e' := z26 * 8192) (lo := 0) (hi := 531424756029718528) (g_shlp (m := 8192) rfl rfl (by decide) rfl) (wrap_fit (in_mulc r15 (by decide)) rfl) (In.wk (in_mulc r15 (by decide)) rfl) rfl (fun z27 h16 r16 => ?_)
  refine ow_g (g_mv rfl) rfl ?_
  refine ow_gx (e' := z22 / 2251799813685248) (lo := 0) (hi := 8191) (g_shrp (m := 2251799813685248) rfl rfl (by decide) rfl) (rfl) (In.wk (in_div r12 (by decide)) rfl) rfl (fun z28 h17 r17 => ?_)
  refine ow_gx (e' := z27 + z28) (lo := 0) (hi := 531424756029726719) (g_or rfl rfl) (or_join 13 (m := 8192) r16 rfl r17 rfl rfl rfl rfl (eq_mod h16 (Int.mul_emod_left _ _)) rfl rfl) (In.wk (in_add r16 r17) rfl) rfl (fun z29 h18 r18 => ?_)
  refine ow_g (g_as rfl) rfl ?_
  refine ow_nil ?_
  refine tw_keep [(4, _), (10, _), (149, _), (150, _), (11, _)] ⟨rfl, rfl, rfl, rfl, rfl, trivial⟩ ?_
  refine tw_b ?_
  refine tw_region ?_
  refine ow_g (g_fold (j := 2) (g_addw rfl rfl) (by decide)) rfl ?_
  refine ow_g (g_mv rfl) rfl ?_
  refine ow_nil ?_
  refine tw_keep [(4, _), (10, _), (149, _), (150, _), (11, _)] ⟨rfl, rfl, rfl, rfl, rfl, trivial⟩ ?_
  refine tw_lp ?_
  refine tw_seq ?_
  refine tw_region ?_
  refine ow_g (g_lt rfl rfl) rfl ?_
  refine ow_nil ?_
  refine tw_keep [(4, _), (10, _), (149, _), (150, _), (11, _), (151, _)] ⟨rfl, rfl, rfl, rfl, rfl, rfl, trivial⟩ ?_
  refine tw_seq ?_
  refine tw_ifT rfl (by decide) ?_
  refine tw_skip ?_
  refine tw_seq ?_
  refine tw_block ?_
  refine tw_seq ?_
  refine tw_region ?_
  refine ow_g (g_mv rfl) rfl ?_
  refine ow_g (g_ixva (cs' := [_, _]) Try.underlying108 ty106 ag106 rfl rfl (by decide) rfl) rfl ?_
  refine ow_d (d_alloc ty106) rfl ?_
  rintro _ w65 ⟨b8, rfl, eb8, hb13, k65, z30⟩
  have ge_b8 : w.heap.size ≤ b8 := by have := hB.size; omega
  have ne_b1_b8 : b1 ≠ b8 := by have := hb1.lt; omega
  have ne_b2_b8 : b2 ≠ b8 := by have := hb2.lt; omega
  have ne_b3_b8 : b3 ≠ b8 := by have := hb3.lt; omega
  have ne_b4_b8 : b4 ≠ b8 := by have := hb5.lt; omega
  have ne_b6_b8 : b6 ≠ b8 := by have := hb8.lt; omega
  have ne_b7_b8 : b7 ≠ b8 := by have := hb11.lt; omega
  have ne_b5_b8 : b5 ≠ b8 := by have := hb12.lt; omega
  replace hb1 := hb1.keep0 k65
  replace hb2 := hb2.keep0 k65
  replace hb3 := hb3.keep0 k65
  replace hb5 := hb5.keep0 k65
  replace hb8 := hb8.keep0 k65
  replace hb11 := hb11.keep0 k65
  replace hb12 := hb12.keep0 k65
  replace hB := hB.trans k65
  clear eb8 z30
  refine ow_g (g_as rfl) rfl ?_
  refine ow_d0 (d_sta ty106 rfl rfl rfl (by simp only [List.forall_mem_cons]; refine ⟨rfl, rfl, fun v hv => by cases hv⟩) hb13 rfl) ?_
  rintro _ w66 ⟨hb14, k66, z31⟩
  replace hb1 := hb1.keep k66 (fun hm => absurd (List.mem_singleton.1 hm) ne_b1_b8)
  replace hb2 := hb2.keep k66 (fun hm => absurd (List.mem_singleton.1 hm) ne_b2_b8)
  replace hb3 := hb3.keep k66 (fun hm => absurd (List.mem_singleton.1 hm) ne_b3_b8)
  replace hb5 := hb5.keep k66 (fun hm => absurd (List.mem_singleton.1 hm) ne_b4_b8)
  replace hb8 := hb8.keep k66 (fun hm => absurd (List.mem_singleton.1 hm) ne_b6_b8)
  replace hb11 := hb11.keep k66 (fun hm => absurd (List.mem_singleton.1 hm) ne_b7_b8)
  replace hb12 := hb12.keep k66 (fun hm => absurd (List.mem_singleton.1 hm) ne_b5_b8)
  replace hB := hB.new k66 (fun x hx => .inl ((List.mem_singleton.1 hx) ▸ ge_b8))
  clear z31
  replace hb14 : Bk w66 b8 _ [.int .u64 hi15, .int .u64 lo15] := hb14
  refine ow_nil ?_
  refine tw_keep [(4, _), (10, _), (149, _), (150, _), (11, _), (13, _), (12, _)] ⟨rfl, rfl, rfl, rfl, rfl, rfl, rfl, trivial⟩ ?_
  refine tw_seq ?_
  refine tw_region ?_
  refine ow_g (g_fa Try.underlying106 rfl ty24 (by decide) rfl) rfl ?_
  refine ow_g (g_ldb sc24 rfl hb14 rfl) rfl ?_
  refine ow_g (g_mv rfl) rfl ?_
  refine ow_g (g_callv (vs := [_, _, _]) rfl (add64_run _ _ _ (In.wk rb15 rfl) (In.wk r18 rfl) (In.wk (in_c 0) rfl))) rfl ?_
  refine ow_g (g_mv rfl) rfl ?_
  refine ow_gx (e' := ((lo15 + z29 + 0) % 18446744073709551616)) (lo := 0) (hi := 18446744073709551615) (g_ext (vs := [_, _]) rfl rfl) (rfl) (In.wk (in_mod _ (by decide)) rfl) rfl (fun z32 h19 r19 => ?_)
  refine ow_gx (e' := ((lo15 + z29 + 0) / 18446744073709551616)) (lo := 0) (hi := 1) (g_ext (vs := [_, _]) rfl rfl) (rfl) (In.wk (in_div (in_add (in_add rb15 r18) (in_c 0)) (by decide)) rfl) rfl (fun z33 h20 r20 => ?_)
  refine ow_g (g_as rfl) rfl ?_
  refine ow_g (g_as rfl) rfl ?_
  refine ow_nil ?_
  refine tw_keep [(4, _), (10, _), (149, _), (150, _), (13, _), (12, _), (14, _), (15, _)] ⟨rfl, rfl, rfl, rfl, rfl, rfl, rfl, rfl, trivial⟩ ?_
  refine tw_seq ?_
  refine tw_region ?_
  refine ow_g (g_mv rfl) rfl ?_
  refine ow_g (g_mv rfl) rfl ?_
  refine ow_gx (e' := z32 % 2251799813685248) (lo := 0) (hi := 2251799813685247) (g_and rfl rfl) (and_mod 51 r19 rfl rfl rfl rfl rfl rfl) (In.wk (in_mod _ (by decide)) rfl) rfl (fun z34 h21 r21 => ?_)
  refine ow_g (g_ixa Try.underlying26 ty24 rfl rfl (by decide)) rfl ?_
  refine ow_d0 (d_st ty24 rfl rfl rfl hb12 rfl) ?_
  rintro _ w67 ⟨hb15, k67, z35⟩
  replace hb1 := hb1.keep k67 (fun hm => absurd (List.mem_singleton.1 hm) ne_b1_b5)
  replace hb2 := hb2.keep k67 (fun hm => absurd (List.mem_singleton.1 hm) ne_b2_b5)
  replace hb3 := hb3.keep k67 (fun hm => absurd (List.mem_singleton.1 hm) ne_b3_b5)
  replace hb5 := hb5.keep k67 (fun hm => absurd (List.mem_singleton.1 hm) ne_b4_b5)
  replace hb8 := hb8.keep k67 (fun hm => absurd (List.mem_singleton.1 hm) (Ne.symm ne_b5_b6))
  replace hb11 := hb11.keep k67 (fun hm => absurd (List.mem_singleton.1 hm) (Ne.symm ne_b5_b7))
  replace hb14 := hb14.keep k67 (fun hm => absurd (List.mem_singleton.1 hm) (Ne.symm ne_b5_b8))
  replace hB := hB.new k67 (fun x hx => .inl ((List.mem_singleton.1 hx) ▸ ge_b5))
  clear z35
  replace hb15 : Bk w67 b5 _ [.int .u64 z14, .int .u64 z24, .int .u64 z34, .int .u64 0, .int .u64 0] := hb15
  refine ow_nil ?_
  refine tw_keep [(4, _), (10, _), (149, _), (150, _), (13, _), (14, _), (15, _)] ⟨rfl, rfl, rfl, rfl, rfl, rfl, rfl, trivial⟩ ?_
  refine tw_region ?_
  refine ow_g (g_fa Try.underlying106 rfl ty24 (by decide) rfl) rfl ?_
  refine ow_g (g_ldb sc24 rfl hb14 rfl) rfl ?_
  refine ow_g (g_mv rfl) rfl ?_
  refine ow_gx (e' := hi15 + z33) (lo := 0) (hi := 45079976738816) (g_addw rfl rfl) (wrap_fit (in_add ra15 r20) rfl) (In.wk (in_add ra15 r20) rfl) rfl (fun z36 h22 r22 => ?_)
  refine ow_gx (e' := z36 * 8192) (lo := 0) (hi := 369295169444380672) (g_shlp (m := 8192) rfl rfl (by decide) rfl) (wrap_fit (in_mulc r22 (by decide)) rfl) (In.wk (in_mulc r22 (by decide)) rfl) rfl (fun z37 h23 r23 => ?_)
  refine ow_g (g_mv rfl) rfl ?_
  refine ow_gx (e' := z32 / 2251799813685248) (lo := 0) (hi := 8191) (g_shrp (m := 2251799813685248) rfl rfl (by decide) rfl) (rfl) (In.wk (in_div r19 (by decide)) rfl) rfl (fun z38 h24 r24 => ?_)
  refine ow_gx (e' := z37 + z38) (lo := 0) (hi := 369295169444388863) (g_or rfl rfl) (or_join 13 (m := 8192) r23 rfl r24 rfl rfl rfl rfl (eq_mod h23 (Int.mul_emod_left _ _)) rfl rfl) (In.wk (in_add r23 r24) rfl) rfl (fun z39 h25 r25 => ?_)
  refine ow_g (g_as rfl) rfl ?_
  refine ow_nil ?_
  refine tw_keep [(4, _), (10, _), (149, _), (150, _), (11, _)] ⟨rfl, rfl, rfl, rfl, rfl, trivial⟩ ?_
  refine tw_b ?_
  refine tw_region ?_
  refine ow_g (g_fold (j := 3) (g_addw rfl rfl) (by decide)) rfl ?_
  refine ow_g (g_mv rfl) rfl ?_
  refine ow_nil ?_
  refine tw_keep [(4, _), (10, _), (149, _), (150, _), (11, _)] ⟨rfl, rfl, rfl, rfl, rfl, trivial⟩ ?_
  refine tw_lp ?_
  refine tw_seq ?_
  refine tw_region ?_
  refine ow_g (g_lt rfl rfl) rfl ?_
  refine ow_nil ?_
  refine tw_keep [(4, _), (10, _), (149, _), (150, _), (11, _), (151, _)] ⟨rfl, rfl, rfl, rfl, rfl, rfl, trivial⟩ ?_
  refine tw_seq ?_
  refine tw_ifT rfl (by decide) ?_
  refine tw_skip ?_
  refine tw_seq ?_
  refine tw_block ?_
  refine tw_seq ?_
  refine tw_region ?_
  refine ow_g (g_mv rfl) rfl ?_
  refine ow_g (g_ixva (cs' := [_, _]) Try.underlying108 ty106 ag106 rfl rfl (by decide) rfl) rfl ?_
  refine ow_d (d_alloc ty106) rfl ?_
  rintro _ w68 ⟨b9, rfl, eb9, hb16, k68, z40⟩
  have ge_b9 : w.heap.size ≤ b9 := by have := hB.size; omega
  have ne_b1_b9 : b1 ≠ b9 := by have := hb1.lt; omega
  have ne_b2_b9 : b2 ≠ b9 := by have := hb2.lt; omega
  have ne_b3_b9 : b3 ≠ b9 := by have := hb3.lt; omega
  have ne_b4_b9 : b4 ≠ b9 := by have := hb5.lt; omega
  have ne_b6_b9 : b6 ≠ b9 := by have := hb8.lt; omega
  have ne_b7_b9 : b7 ≠ b9 := by have := hb11.lt; omega
  have ne_b8_b9 : b8 ≠ b9 := by have := hb14.lt; omega
  have ne_b5_b9 : b5 ≠ b9 := by have := hb15.lt; omega
  replace hb1 := hb1.keep0 k68
  replace hb2 := hb2.keep0 k68
  replace hb3 := hb3.keep0 k68
  replace hb5 := hb5.keep0 k68
  replace hb8 := hb8.keep0 k68
  replace hb11 := hb11.keep0 k68
  replace hb14 := hb14.keep0 k68
  replace hb15 := hb15.keep0 k68
  replace hB := hB.trans k68
  clear eb9 z40
  refine ow_g (g_as rfl) rfl ?_
  refine ow_d0 (d_sta ty106 rfl rfl rfl (by simp only [List.forall_mem_cons]; refine ⟨rfl, rfl, fun v hv => by cases hv⟩) hb16 rfl) ?_
  rintro _ w69 ⟨hb17, k69, z41⟩
  replace hb1 := hb1.keep k69 (fun hm => absurd (List.mem_singleton.1 hm) ne_b1_b9)
  replace hb2 := hb2.keep k69 (fun hm => absurd (List.mem_singleton.1 hm) ne_b2_b9)
  replace hb3 := hb3.keep k69 (fun hm => absurd (List.mem_singleton.1 hm) ne_b3_b9)
  replace hb5 := hb5.keep k69 (fun hm => absurd (List.mem_singleton.1 hm) ne_b4_b9)
  replace hb8 := hb8.keep k69 (fun hm => absurd (List.mem_singleton.1 hm) ne_b6_b9)
  replace hb11 := hb11.keep k69 (fun hm => absurd (List.mem_singleton.1 hm) ne_b7_b9)
  replace hb14 := hb14.keep k69 (fun hm => absurd (List.mem_singleton.1 hm) ne_b8_b9)
  replace hb15 := hb15.keep k69 (fun hm => absurd (List.mem_singleton.1 hm) ne_b5_b9)
  replace hB := hB.new k69 (fun x hx => .inl ((List.mem_singleton.1 hx) ▸ ge_b9))
  clear z41
  replace hb17 : Bk w69 b9 _ [.int .u64 hi20, .int .u64 lo20] := hb17
  refine ow_nil ?_
  refine tw_keep [(4, _), (10, _), (149, _), (150, _), (11, _), (13, _), (12, _)] ⟨rfl, rfl, rfl, rfl, rfl, rfl, rfl, trivial⟩ ?_
  refine tw_seq ?_
  refine tw_region ?_
  refine ow_g (g_fa Try.underlying106 rfl ty24 (by decide) rfl) rfl ?_
  refine ow_g (g_ldb sc24 rfl hb17 rfl) rfl ?_
  refine ow_g (g_mv rfl) rfl ?_
  refine ow_g (g_callv (vs := [_, _, _]) rfl (add64_run _ _ _ (In.wk rb20 rfl) (In.wk r25 rfl) (In.wk (in_c 0) rfl))) rfl ?_
  refine ow_g (g_mv rfl) rfl ?_
  refine ow_gx (e' := ((lo20 + z39 + 0) % 18446744073709551616)) (lo := 0) (hi := 18446744073709551615) (g_ext (vs := [_, _]) rfl rfl) (rfl) (In.wk (in_mod _ (by decide)) rfl) rfl (fun z42 h26 r26 => ?_)
  refine ow_gx (e' := ((lo20 + z39 + 0) / 18446744073709551616)) (lo := 0) (hi := 1) (g_ext (vs := [_, _]) rfl rfl) (rfl) (In.wk (in_div (in_add (in_add rb20 r25) (in_c 0)) (by decide)) rfl) rfl (fun z43 h27 r27 => ?_)
  refine ow_g (g_as rfl) rfl ?_
  refine ow_g (g_as rfl) rfl ?_
  refine ow_nil ?_
  refine tw_keep [(4, _), (10, _), (149, _), (150, _), (13, _), (12, _), (14, _), (15, _)] ⟨rfl, rfl, rfl, rfl, rfl, rfl, rfl, rfl, trivial⟩ ?_
  refine tw_seq ?_
  refine tw_region ?_
  refine ow_g (g_mv rfl) rfl ?_
  refine ow_g (g_mv rfl) rfl ?_
  refine ow_gx (e' := z42 % 2251799813685248) (lo := 0) (hi := 2251799813685247) (g_and rfl rfl) (and_mod 51 r26 rfl rfl rfl rfl rfl rfl) (In.wk (in_mod _ (by decide)) rfl) rfl (fun z44 h28 r28 => ?_)
  refine ow_g (g_ixa Try.underlying26 ty24 rfl rfl (by decide)) rfl ?_
  refine ow_d0 (d_st ty24 rfl rfl rfl hb15 rfl) ?_
  rintro _ w70 ⟨hb18, k70, z45⟩
  replace hb1 := hb1.keep k70 (fun hm => absurd (List.mem_singleton.1 hm) ne_b1_b5)
  replace hb2 := hb2.keep k70 (fun hm => absurd (List.mem_singleton.1 hm) ne_b2_b5)
  replace hb3 := hb3.keep k70 (fun hm => absurd (List.mem_singleton.1 hm) ne_b3_b5)
  replace hb5 := hb5.keep k70 (fun hm => absurd (List.mem_singleton.1 hm) ne_b4_b5)
  replace hb8 := hb8.keep k70 (fun hm => absurd (List.mem_singleton.1 hm) (Ne.symm ne_b5_b6))
  replace hb11 := hb11.keep k70 (fun hm => absurd (List.mem_singleton.1 hm) (Ne.symm ne_b5_b7))
  replace hb14 := hb14.keep k70 (fun hm => absurd (List.mem_singleton.1 hm) (Ne.symm ne_b5_b8))
  replace hb17 := hb17.keep k70 (fun hm => absurd (List.mem_singleton.1 hm) (Ne.symm ne_b5_b9))
  replace hB := hB.new k70 (fun x hx => .inl ((List.mem_singleton.1 hx) ▸ ge_b5))
  clear z45
  replace hb18 : Bk w70 b5 _ [.int .u64 z14, .int .u64 z24, .int .u64 z34, .int .u64 z44, .int .u64 0] := hb18
  refine ow_nil ?_
  refine tw_keep [(4, _), (10, _), (149, _), (150, _), (13, _), (14, _), (15, _)] ⟨rfl, rfl, rfl, rfl, rfl, rfl, rfl, trivial⟩ ?_
  refine tw_region ?_
  refine ow_g (g_fa Try.underlying106 rfl ty24 (by decide) rfl) rfl ?_
  refine ow_g (g_ldb sc24 rfl hb17 rfl) rfl ?_
  refine ow_g (g_mv rfl) rfl ?_
  refine ow_gx (e' := hi20 + z43) (lo := 0) (hi := 25288767438848) (g_addw rfl rfl) (wrap_fit (in_add ra20 r27) rfl) (In.wk (in_add ra20 r27) rfl) rfl (fun z46 h29 r29 => ?_)
  refine ow_gx (e' := z46 * 8192) (lo := 0) (hi := 207165582859042816) (g_shlp (m := 8192) rfl rfl (by decide) rfl) (wrap_fit (in_mulc r29 (by decide)) rfl) (In.wk (in_mulc r29 (by decide)) rfl) rfl (fun z47 h30 r30 => ?_)
  refine ow_g (g_mv rfl) rfl ?_
  refine ow_gx (e' := z42 / 2251799813685248) (lo := 0) (hi := 8191) (g_shrp (m := 2251799813685248) rfl rfl (by decide) rfl) (rfl) (In.wk (in_div r26 (by decide)) rfl) rfl (fun z48 h31 r31 => ?_)
  refine ow_gx (e' := z47 + z48) (lo := 0) (hi := 207165582859051007) (g_or rfl rfl) (or_join 13 (m := 8192) r30 rfl r31 rfl rfl rfl rfl (eq_mod h30 (Int.mul_emod_left _ _)) rfl rfl) (In.wk (in_add r30 r31) rfl) rfl (fun z49 h32 r32 => ?_)
  refine ow_g (g_as rfl) rfl ?_
  refine ow_nil ?_
  refine tw_keep [(4, _), (10, _), (149, _), (150, _), (11, _)] ⟨rfl, rfl, rfl, rfl, rfl, trivial⟩ ?_
  refine tw_b ?_
  refine tw_region ?_
  refine ow_g (g_fold (j := 4) (g_addw rfl rfl) (by decide)) rfl ?_
  refine ow_g (g_mv rfl) rfl ?_
  refine ow_nil ?_
  refine tw_keep [(4, _), (10, _), (149, _), (150, _), (11, _)] ⟨rfl, rfl, rfl, rfl, rfl, trivial⟩ ?_
  refine tw_lp ?_
  refine tw_seq ?_
  refine tw_region ?_
  refine ow_g (g_lt rfl rfl) rfl ?_
  refine ow_nil ?_
  refine tw_keep [(4, _), (10, _), (149, _), (150, _), (11, _), (151, _)] ⟨rfl, rfl, rfl, rfl, rfl, rfl, trivial⟩ ?_
  refine tw_seq ?_
  refine tw_ifT rfl (by decide) ?_
  refine tw_skip ?_
  refine tw_seq ?_
  refine tw_block ?_
  refine tw_seq ?_
  refine tw_region ?_
  refine ow_g (g_mv rfl) rfl ?_
  refine ow_g (g_ixva (cs' := [_, _]) Try.underlying108 ty106 ag106 rfl rfl (by decide) rfl) rfl ?_
  refine ow_d (d_alloc ty106) rfl ?_
  rintro _ w71 ⟨b10, rfl, eb10, hb19, k71, z50⟩
  have ge_b10 : w.heap.size ≤ b10 := by have := hB.size; omega
  have ne_b1_b10 : b1 ≠ b10 := by have := hb1.lt; omega
  have ne_b2_b10 : b2 ≠ b10 := by have := hb2.lt; omega
  have ne_b3_b10 : b3 ≠ b10 := by have := hb3.lt; omega
  have ne_b4_b10 : b4 ≠ b10 := by have := hb5.lt; omega
  have ne_b6_b10 : b6 ≠ b10 := by have := hb8.lt; omega
  have ne_b7_b10 : b7 ≠ b10 := by have := hb11.lt; omega
  have ne_b8_b10 : b8 ≠ b10 := by have := hb14.lt; omega
  have ne_b9_b10 : b9 ≠ b10 := by have := hb17.lt; omega
  have ne_b5_b10 : b5 ≠ b10 := by have := hb18.lt; omega
  replace hb1 := hb1.keep0 k71
  replace hb2 := hb2.keep0 k71
  replace hb3 := hb3.keep0 k71
  replace hb5 := hb5.keep0 k71
  replace hb8 := hb8.keep0 k71
  replace hb11 := hb11.keep0 k71
  replace hb14 := hb14.keep0 k71
  replace hb17 := hb17.keep0 k71
  replace hb18 := hb18.keep0 k71
  replace hB := hB.trans k71
  clear eb10 z50
  refine ow_g (g_as rfl) rfl ?_
  refine ow_d0 (d_sta ty106 rfl rfl rfl (by simp only [List.forall_mem_cons]; refine ⟨rfl, rfl, fun v hv => by cases hv⟩) hb19 rfl) ?_
  rintro _ w72 ⟨hb20, k72, z51⟩
  replace hb1 := hb1.keep k72 (fun hm => absurd (List.mem_singleton.1 hm) ne_b1_b10)
  replace hb2 := hb2.keep k72 (fun hm => absurd (List.mem_singleton.1 hm) ne_b2_b10)
  replace hb3 := hb3.keep k72 (fun hm => absurd (List.mem_singleton.1 hm) ne_b3_b10)
  replace hb5 := hb5.keep k72 (fun hm => absurd (List.mem_singleton.1 hm) ne_b4_b10)
  replace hb8 := hb8.keep k72 (fun hm => absurd (List.mem_singleton.1 hm) ne_b6_b10)
  replace hb11 := hb11.keep k72 (fun hm => absurd (List.mem_singleton.1 hm) ne_b7_b10)
  replace hb14 := hb14.keep k72 (fun hm => absurd (List.mem_singleton.1 hm) ne_b8_b10)
  replace hb17 := hb17.keep k72 (fun hm => absurd (List.mem_singleton.1 hm) ne_b9_b10)
  replace hb18 := hb18.keep k72 (fun hm => absurd (List.mem_singleton.1 hm) ne_b5_b10)
  replace hB := hB.new k72 (fun x hx => .inl ((List.mem_singleton.1 hx) ▸ ge_b10))
  clear z51
  replace hb20 : Bk w72 b10 _ [.int .u64 hi25, .int .u64 lo25] := hb20
  refine ow_nil ?_
  refine tw_keep [(4, _), (10, _), (149, _), (150, _), (11, _), (13, _), (12, _)] ⟨rfl, rfl, rfl, rfl, rfl, rfl, rfl, trivial⟩ ?_
  refine tw_seq ?_
  refine tw_region ?_
  refine ow_g (g_fa Try.underlying106 rfl ty24 (by decide) rfl) rfl ?_
  refine ow_g (g_ldb sc24 rfl hb20 rfl) rfl ?_
  refine ow_g (g_mv rfl) rfl ?_
  refine ow_g (g_callv (vs := [_, _, _]) rfl (add64_run _ _ _ (In.wk rb25 rfl) (In.wk r32 rfl) (In.wk (in_c 0) rfl))) rfl ?_
  refine ow_g (g_mv rfl) rfl ?_
  refine ow_gx (e' := ((lo25 + z49 + 0) % 18446744073709551616)) (lo := 0) (hi := 18446744073709551615) (g_ext (vs := [_, _]) rfl rfl) (rfl) (In.wk (in_mod _ (by decide)) rfl) rfl (fun z52 h33 r33 => ?_)
  refine ow_gx (e' := ((lo25 + z49 + 0) / 18446744073709551616)) (lo := 0) (hi := 1) (g_ext (vs := [_, _]) rfl rfl) (rfl) (In.wk (in_div (in_add (in_add rb25 r32) (in_c 0)) (by decide)) rfl) rfl (fun z53 h34 r34 => ?_)
  refine ow_g (g_as rfl) rfl ?_
  refine ow_g (g_as rfl) rfl ?_
  refine ow_nil ?_
  refine tw_keep [(4, _), (10, _), (149, _), (150, _), (13, _), (12, _), (14, _), (15, _)] ⟨rfl, rfl, rfl, rfl, rfl, rfl, rfl, rfl, trivial⟩ ?_
  refine tw_seq ?_
  refine tw_region ?_
  refine ow_g (g_mv rfl) rfl ?_
  refine ow_g (g_mv rfl) rfl ?_
  refine ow_gx (e' := z52 % 2251799813685248) (lo := 0) (hi := 2251799813685247) (g_and rfl rfl) (and_mod 51 r33 rfl rfl rfl rfl rfl rfl) (In.wk (in_mod _ (by decide)) rfl) rfl (fun z54 h35 r35 => ?_)
  refine ow_g (g_ixa Try.underlying26 ty24 rfl rfl (by decide)) rfl ?_
  refine ow_d0 (d_st ty24 rfl rfl rfl hb18 rfl) ?_
  rintro _ w73 ⟨hb21, k73, z55⟩
  replace hb1 := hb1.keep k73 (fun hm => absurd (List.mem_singleton.1 hm) ne_b1_b5)
  replace hb2 := hb2.keep k73 (fun hm => absurd (List.mem_singleton.1 hm) ne_b2_b5)
  replace hb3 := hb3.keep k73 (fun hm => absurd (List.mem_singleton.1 hm) ne_b3_b5)
  replace hb5 := hb5.keep k73 (fun hm => absurd (List.mem_singleton.1 hm) ne_b4_b5)
  replace hb8 := hb8.keep k73 (fun hm => absurd (List.mem_singleton.1 hm) (Ne.symm ne_b5_b6))
  replace hb11 := hb11.keep k73 (fun hm => absurd (List.mem_singleton.1 hm) (Ne.symm ne_b5_b7))
  replace hb14 := hb14.keep k73 (fun hm => absurd (List.mem_singleton.1 hm) (Ne.symm ne_b5_b8))
  replace hb17 := hb17.keep k73 (fun hm => absurd (List.mem_singleton.1 hm) (Ne.symm ne_b5_b9))
  replace hb20 := hb20.keep k73 (fun hm => absurd (List.mem_singleton.1 hm) (Ne.symm ne_b5_b10))
  replace hB := hB.new k73 (fun x hx => .inl ((List.mem_singleton.1 hx) ▸ ge_b5))
  clear z55
  replace hb21 : Bk w73 b5 _ [.int .u64 z14, .int .u64 z24, .int .u64 z34, .int .u64 z44, .int .u64 z54] := hb21
  refine ow_nil ?_
  refine tw_keep [(4, _), (10, _), (149, _), (150, _), (13, _), (14, _), (15, _)] ⟨rfl, rfl, rfl, rfl, rfl, rfl, rfl, trivial⟩ ?_
  refine tw_region ?_
  refine ow_g (g_fa Try.underlying106 rfl ty24 (by decide) rfl) rfl ?_
  refine ow_g (g_ldb sc24 rfl hb20 rfl) rfl ?_
  refine ow_g (g_mv rfl) rfl ?_
  refine ow_gx (e' := hi25 + z53) (lo := 0) (hi := 5497558138880) (g_addw rfl rfl) (wrap_fit (in_add ra25 r34) rfl) (In.wk (in_add ra25 r34) rfl) rfl (fun z56 h36 r36 => ?_)
  refine ow_gx (e' := z56 * 8192) (lo := 0) (hi := 45035996273704960) (g_shlp (m := 8192) rfl rfl (by decide) rfl) (wrap_fit (in_mulc r36 (by decide)) rfl) (In.wk (in_mulc r36 (by decide)) rfl) rfl (fun z57 h37 r37 => ?_)
  refine ow_g (g_mv rfl) rfl ?_
  refine ow_gx (e' := z52 / 2251799813685248) (lo := 0) (hi := 8191) (g_shrp (m := 2251799813685248) rfl rfl (by decide) rfl) (rfl) (In.wk (in_div r33 (by decide)) rfl) rfl (fun z58 h38 r38 => ?_)
  refine ow_gx (e' := z57 + z58) (lo := 0) (hi := 45035996273713151) (g_or rfl rfl) (or_join 13 (m := 8192) r37 rfl r38 rfl rfl rfl rfl (eq_mod h37 (Int.mul_emod_left _ _)) rfl rfl) (In.wk (in_add r37 r38) rfl) rfl (fun z59 h39 r39 => ?_)
  refine ow_g (g_as rfl) rfl ?_
  refine ow_nil ?_
  refine tw_keep [(4, _), (10, _), (149, _), (150, _), (11, _)] ⟨rfl, rfl, rfl, rfl, rfl, trivial⟩ ?_
  refine tw_b ?_
  refine tw_region ?_
  refine ow_g (g_fold (j := 5) (g_addw rfl rfl) (by decide)) rfl ?_
  refine ow_g (g_mv rfl) rfl ?_
  refine ow_nil ?_
  refine tw_keep [(4, _), (10, _), (149, _), (150, _), (11, _)] ⟨rfl, rfl, rfl, rfl, rfl, trivial⟩ ?_
  refine tw_lp ?_
  refine tw_seq ?_
  refine tw_region ?_
  refine ow_g (g_lt rfl rfl) rfl ?_
  refine ow_nil ?_
  refine tw_keep [(4, _), (10, _), (149, _), (150, _), (11, _), (151, _)] ⟨rfl, rfl, rfl, rfl, rfl, rfl, trivial⟩ ?_
  refine tw_seq ?_
  refine tw_ifF rfl (by decide) ?_
  refine tw_exit rfl ?_
  refine tw_seq ?_
  refine tw_region ?_
  refine ow_g (g_ixa Try.underlying26 ty24 rfl rfl (by decide)) rfl ?_
  refine ow_g (g_ldb sc24 rfl hb21 rfl) rfl ?_
  refine ow_g (g_mv rfl) rfl ?_
  refine ow_gx (e' := 19 * z59) (lo := 0) (hi := 855683929200549869) (g_mulw rfl rfl) (wrap_fit (in_cmul r39 (by decide)) rfl) (In.wk (in_cmul r39 (by decide)) rfl) rfl (fun z60 h40 r40 => ?_)
  refine ow_gx (e' := z14 + z60) (lo := 0) (hi := 857935729014235116) (g_addw rfl rfl) (wrap_fit (in_add r7 r40) rfl) (In.wk (in_add r7 r40) rfl) rfl (fun z61 h41 r41 => ?_)
  refine ow_g (g_ixa Try.underlying26 ty24 rfl rfl (by decide)) rfl ?_
  refine ow_d0 (d_st ty24 rfl rfl rfl hb21 rfl) ?_
  rintro _ w74 ⟨hb22, k74, z62⟩
  replace hb1 := hb1.keep k74 (fun hm => absurd (List.mem_singleton.1 hm) ne_b1_b5)
  replace hb2 := hb2.keep k74 (fun hm => absurd (List.mem_singleton.1 hm) ne_b2_b5)
  replace hb3 := hb3.keep k74 (fun hm => absurd (List.mem_singleton.1 hm) ne_b3_b5)
  replace hb5 := hb5.keep k74 (fun hm => absurd (List.mem_singleton.1 hm) ne_b4_b5)
  replace hb8 := hb8.keep k74 (fun hm => absurd (List.mem_singleton.1 hm) (Ne.symm ne_b5_b6))
  replace hb11 := hb11.keep k74 (fun hm => absurd (List.mem_singleton.1 hm) (Ne.symm ne_b5_b7))
  replace hb14 := hb14.keep k74 (fun hm => absurd (List.mem_singleton.1 hm) (Ne.symm ne_b5_b8))
  replace hb17 := hb17.keep k74 (fun hm => absurd (List.mem_singleton.1 hm) (Ne.symm ne_b5_b9))
  replace hb20 := hb20.keep k74 (fun hm => absurd (List.mem_singleton.1 hm) (Ne.symm ne_b5_b10))
  replace hB := hB.new k74 (fun x hx => .inl ((List.mem_singleton.1 hx) ▸ ge_b5))
  clear z62
  replace hb22 : Bk w74 b5 _ [.int .u64 z61, .int .u64 z24, .int .u64 z34, .int .u64 z44, .int .u64 z54] := hb22
  refine ow_nil ?_
  refine tw_keep [(4, _), (10, _)] ⟨rfl, rfl, trivial⟩ ?_
  refine tw_seq ?_
  refine tw_region ?_
  refine ow_g (g_ldab (cs' := [_, _, _, _, _]) ag26 ty26 rfl hb22 rfl rfl) rfl ?_
  refine ow_d (d_call (vs := [_]) rfl (carry_any (vecN [z61, z24, z34, z44, z54]) (In.wk r41 rfl) (In.wk r14 rfl) (In.wk r21 rfl) (In.wk r28 rfl) (In.wk r35 rfl) _)) rfl ?_
  rintro _ w75 ⟨hh1, c01, c11, c21, c31, c41, rfl, e01, e11, e21, e31, e41, g01, g11, g21, g31, g41, gv1, k75⟩
  replace hb1 := hb1.keep0 k75
  replace hb2 := hb2.keep0 k75
  replace hb3 := hb3.keep0 k75
  replace hb5 := hb5.keep0 k75
  replace hb8 := hb8.keep0 k75
  replace hb11 := hb11.keep0 k75
  replace hb14 := hb14.keep0 k75
  replace hb17 := hb17.keep0 k75
  replace hb20 := hb20.keep0 k75
  replace hb22 := hb22.keep0 k75
  replace hB := hB.trans k75
  replace e01 : c01 = z61 / 2251799813685248 := e01
  replace e11 : c11 = (z24 + c01) / 2251799813685248 := e11
  replace e21 : c21 = (z34 + c11) / 2251799813685248 := e21
  replace e31 : c31 = (z44 + c21) / 2251799813685248 := e31
  replace e41 : c41 = (z54 + c31) / 2251799813685248 := e41
  replace g01 : hh1 0 = z61 % 2251799813685248 + 19 * c41 := g01
  replace g11 : hh1 1 = (z24 + c01) % 2251799813685248 := g11
  replace g21 : hh1 2 = (z34 + c11) % 2251799813685248 := g21
  replace g31 : hh1 3 = (z44 + c21) % 2251799813685248 := g31
  replace g41 : hh1 4 = (z54 + c31) % 2251799813685248 := g41
  replace gv1 : val5 hh1 + c41 * 57896044618658097711785492504343953926634992332820282019728792003956564819949 = z61 + z24 * 2251799813685248 + z34 * 5070602400912917605986812821504 + z44 * 11417981541647679048466287755595961091061972992 + z54 * 25711008708143844408671393477458601640355247900524685364822016 := gv1
  obtain ⟨r42, r43, r44, r45, r46⟩ := carry_bounds (t := 2251799813685266) e01 e11 e21 e31 e41 g01 g11 g21 g31 g41 (In.wk r41 rfl : In _ 0 857935729014235116) (In.wk r14 rfl : In _ 0 2251799813685247) (In.wk r21 rfl : In _ 0 2251799813685247) (In.wk r28 rfl : In _ 0 2251799813685247) (In.wk r35 rfl : In _ 0 2251799813685247) rfl
  refine ow_d0 (d_sta ty26 rfl rfl rfl ivF_one hb3 rfl) ?_
  rintro _ w76 ⟨hb23, k76, z63⟩
  replace hb1 := hb1.keep k76 (fun hm => absurd (List.mem_singleton.1 hm) ne_b1_b3)
  replace hb2 := hb2.keep k76 (fun hm => absurd (List.mem_singleton.1 hm) ne_b2_b3)
  replace hb5 := hb5.keep k76 (fun hm => absurd (List.mem_singleton.1 hm) (Ne.symm ne_b3_b4))
  replace hb8 := hb8.keep k76 (fun hm => absurd (List.mem_singleton.1 hm) (Ne.symm ne_b3_b6))
  replace hb11 := hb11.keep k76 (fun hm => absurd (List.mem_singleton.1 hm) (Ne.symm ne_b3_b7))
  replace hb14 := hb14.keep k76 (fun hm => absurd (List.mem_singleton.1 hm) (Ne.symm ne_b3_b8))
  replace hb17 := hb17.keep k76 (fun hm => absurd (List.mem_singleton.1 hm) (Ne.symm ne_b3_b9))
  replace hb20 := hb20.keep k76 (fun hm => absurd (List.mem_singleton.1 hm) (Ne.symm ne_b3_b10))
  replace hb22 := hb22.keep k76 (fun hm => absurd (List.mem_singleton.1 hm) (Ne.symm ne_b3_b5))
  replace hB := hB.new k76 (fun x hx => .inl ((List.mem_singleton.1 hx) ▸ ge_b3))
  clear z63
  replace hb23 : Bk w76 b3 _ [.int .u64 (hh1 0), .int .u64 (hh1 1), .int .u64 (hh1 2), .int .u64 (hh1 3), .int .u64 (hh1 4)] := hb23
  refine ow_nil ?_
  refine tw_keep [(4, _)] ⟨rfl, trivial⟩ ?_
  refine tw_retc hfin Try.results70 rfl (run_loadAgg ag26 ty26 (by assumption) rfl)  ?_
  have t0 : hi5 * 18446744073709551616 + lo5 = f 0 * g 0 + 19 * (f 1 * g 4) + 19 * (f 2 * g 3) + 19 * (f 3 * g 2) + 19 * (f 4 * g 1) := by
    have a_eq1 : _ = _ := eq1
    have a_eq2 : _ = _ := eq2
    have a_eq3 : _ = _ := eq3
    have a_eq4 : _ = _ := eq4
    have a_eq5 : _ = _ := eq5
    have qz7 : (f 1) * z7 = 19 * ((f 1) * (g 4)) := by rw [show z7 = _ from h4]; exact Int.mul_left_comm _ _ _
    have qz6 : (f 2) * z6 = 19 * ((f 2) * (g 3)) := by rw [show z6 = _ from h3]; exact Int.mul_left_comm _ _ _
    have qz5 : (f 3) * z5 = 19 * ((f 3) * (g 2)) := by rw [show z5 = _ from h2]; exact Int.mul_left_comm _ _ _
    have qz4 : (f 4) * z4 = 19 * ((f 4) * (g 1)) := by rw [show z4 = _ from h1]; exact Int.mul_left_comm _ _ _
    omega
  have t1 : hi10 * 18446744073709551616 + lo10 = f 0 * g 1 + f 1 * g 0 + 19 * (f 2 * g 4) + 19 * (f 3 * g 3) + 19 * (f 4 * g 2) := by
    have a_eq6 : _ = _ := eq6
    have a_eq7 : _ = _ := eq7
    have a_eq8 : _ = _ := eq8
    have a_eq9 : _ = _ := eq9
    have a_eq10 : _ = _ := eq10
    have qz7 : (f 2) * z7 = 19 * ((f 2) * (g 4)) := by rw [show z7 = _ from h4]; exact Int.mul_left_comm _ _ _
    have qz6 : (f 3) * z6 = 19 * ((f 3) * (g 3)) := by rw [show z6 = _ from h3]; exact Int.mul_left_comm _ _ _
    have qz5 : (f 4) * z5 = 19 * ((f 4) * (g 2)) := by rw [show z5 = _ from h2]; exact Int.mul_left_comm _ _ _
    omega
  have t2 : hi15 * 18446744073709551616 + lo15 = f 0 * g 2 + f 1 * g 1 + f 2 * g 0 + 19 * (f 3 * g 4) + 19 * (f 4 * g 3) := by
    have a_eq11 : _ = _ := eq11
    have a_eq12 : _ = _ := eq12
    have a_eq13 : _ = _ := eq13
    have a_eq14 : _ = _ := eq14
    have a_eq15 : _ = _ := eq15
    have qz7 : (f 3) * z7 = 19 * ((f 3) * (g 4)) := by rw [show z7 = _ from h4]; exact Int.mul_left_comm _ _ _
    have qz6 : (f 4) * z6 = 19 * ((f 4) * (g 3)) := by rw [show z6 = _ from h3]; exact Int.mul_left_comm _ _ _
    omega
  have t3 : hi20 * 18446744073709551616 + lo20 = f 0 * g 3 + f 1 * g 2 + f 2 * g 1 + f 3 * g 0 + 19 * (f 4 * g 4) := by
    have a_eq16 : _ = _ := eq16
    have a_eq17 : _ = _ := eq17
    have a_eq18 : _ = _ := eq18
    have a_eq19 : _ = _ := eq19
    have a_eq20 : _ = _ := eq20
    have qz7 : (f 4) * z7 = 19 * ((f 4) * (g 4)) := by rw [show z7 = _ from h4]; exact Int.mul_left_comm _ _ _
    omega
  have t4 : hi25 * 18446744073709551616 + lo25 = f 0 * g 4 + f 1 * g 3 + f 2 * g 2 + f 3 * g 1 + f 4 * g 0 := by
    have a_eq21 : _ = _ := eq21
    have a_eq22 : _ = _ := eq22
    have a_eq23 : _ = _ := eq23
    have a_eq24 : _ = _ := eq24
    have a_eq25 : _ = _ := eq25
    omega
  exact ⟨hh1, rfl, ⟨(In.wk r42 rfl), (In.wk r43 rfl), (In.wk r44 rfl), (In.wk r45 rfl), (In.wk r46 rfl), mul_fp hfv hgv (z59 + c41) _ _ _ _ _ t0 t1 t2 t3 t4 (by clear t0 t1 t2 t3 t4; simp only [Eqn] at h5 h6 h7 h8 h9 h10 h11 h12 h13 h14 h15 h16 h17 h18 h19 h20 h21 h22 h23 h24 h25 h26 h27 h28 h29 h30 h31 h32 h33 h34 h35 h36 h37 h38 h39 h40 h41; omega)⟩, hB⟩

end Go.Proofs.Ytkngeapegpehpaa.W
