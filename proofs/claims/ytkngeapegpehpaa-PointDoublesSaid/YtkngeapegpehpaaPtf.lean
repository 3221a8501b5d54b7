import Derived.Test.YtkngeapegpehpaaPte
import Derived.Test.YtkngeapegpehpaaSla
namespace Go.Proofs.Ytkngeapegpehpaa.W
open Go Go.Eng Go.Byt
set_option linter.unusedVariables false
set_option linter.unusedSimpArgs false
open Go.Fld Go.Ed
attribute [local irreducible] encB
set_option maxRecDepth 100000 in
set_option maxHeartbeats 1000000 in
theorem Psame_any (p q : Nat → Int) (X1 Y1 Z1 T1 X2 Y2 Z2 T2 : Fp) (hp : PtEl p X1 Y1 Z1 T1) (hz1 : Z1 ≠ 0) (hq : PtEl q X2 Y2 Z2 T2) (hz2 : Z2 ≠ 0) (w : World) : Rets Try.prog 14 [.agg (iv .u64 20 p).toArray, .agg (iv .u64 20 q).toArray] w (fun v w' => v = .bool (decide (encB (X1 * inv Z1) (Y1 * inv Z1) = encB (X2 * inv Z2) (Y2 * inv Z2))) ∧ Keep [] w w') := by
  have hB : Keep [] w w := Keep.refl _ _
  refine rets_of_tw Try.func14 rfl (by decide) Try.ntmps14 rfl (fun fin _ hfin => ?_)
  refine tw_seq ?_
  refine tw_region ?_
  refine ow_d (d_box (cs := [.int .u64 (p 0), .int .u64 (p 1), .int .u64 (p 2), .int .u64 (p 3), .int .u64 (p 4), .int .u64 (p 5), .int .u64 (p 6), .int .u64 (p 7), .int .u64 (p 8), .int .u64 (p 9), .int .u64 (p 10), .int .u64 (p 11), .int .u64 (p 12), .int .u64 (p 13), .int .u64 (p 14), .int .u64 (p 15), .int .u64 (p 16), .int .u64 (p 17), .int .u64 (p 18), .int .u64 (p 19)]) rfl rfl) rfl ?_
  rintro _ w1 ⟨b1, rfl, eb1, hb1, k1, z1⟩
  have ge_b1 : w.heap.size ≤ b1 := by have := hB.size; omega
  replace hB := hB.trans k1
  clear eb1 z1
  refine ow_d (d_box (cs := [.int .u64 (q 0), .int .u64 (q 1), .int .u64 (q 2), .int .u64 (q 3), .int .u64 (q 4), .int .u64 (q 5), .int .u64 (q 6), .int .u64 (q 7), .int .u64 (q 8), .int .u64 (q 9), .int .u64 (q 10), .int .u64 (q 11), .int .u64 (q 12), .int .u64 (q 13), .int .u64 (q 14), .int .u64 (q 15), .int .u64 (q 16), .int .u64 (q 17), .int .u64 (q 18), .int .u64 (q 19)]) rfl rfl) rfl ?_
  rintro _ w2 ⟨b2, rfl, eb2, hb2, k2, z2⟩
  have ge_b2 : w.heap.size ≤ b2 := by have := hB.size; omega
  have ne_b1_b2 : b1 ≠ b2 := by have := hb1.lt; omega
  replace hb1 := hb1.keep0 k2
  replace hB := hB.trans k2
  clear eb2 z2
  refine ow_g (g_as rfl) rfl ?_
  refine ow_nil ?_
  refine tw_keep [(2, _), (3, _)] ⟨rfl, rfl, trivial⟩ ?_
  refine tw_seq ?_
  refine tw_plan 5 [0, 2, 1, 3, 4] [1, 3, 4] [] mixed [(2, _), (3, _)] ⟨rfl, rfl, trivial⟩ (by decide +kernel) rfl (fun w3 k3 => ?_)
  replace hb1 := hb1.keep0 k3
  replace hb2 := hb2.keep0 k3
  replace hB := hB.trans k3
  refine pw_g [(2, _)] rfl rfl ⟨rfl, trivial⟩ rfl (fun W' kk => g_ldab (cs' := [_, _, _, _, _, _, _, _, _, _, _, _, _, _, _, _, _, _, _, _]) ag30 ty30 rfl (Bk.keep0 hb1 kk) rfl rfl) ?_
  refine pw_g [(3, _)] rfl rfl ⟨rfl, trivial⟩ rfl (fun W' kk => g_ldab (cs' := [_, _, _, _, _, _, _, _, _, _, _, _, _, _, _, _, _, _, _, _]) ag30 ty30 rfl (Bk.keep0 hb2 kk) rfl rfl) ?_
  refine pw_d [(5, _)] rfl rfl ⟨rfl, trivial⟩ rfl (d_call (vs := [_]) rfl (Pencode_any _ _ _ _ _ ⟨hp.1, hp.2.1, hp.2.2.1, hp.2.2.2⟩ hz1 _)) ?_
  rintro v1 w4 ⟨o1, k4⟩
  refine ⟨k4, ?_⟩
  have gl_o1 := hB.size
  have sb_b1_o1 := fun x hx => (show x ≠ b1 from by have h1 := (o1.blk x hx).1; have h2 := hb1.lt; omega)
  have sb_b2_o1 := fun x hx => (show x ≠ b2 from by have h1 := (o1.blk x hx).1; have h2 := hb2.lt; omega)
  replace hb1 := hb1.keep0 k4
  replace hb2 := hb2.keep0 k4
  replace hB := hB.trans k4
  have u_o1 := o1.blk
  refine pw_d [(7, _)] rfl rfl ⟨rfl, trivial⟩ rfl (d_call (vs := [_]) rfl (Pencode_any _ _ _ _ _ ⟨hq.1, hq.2.1, hq.2.2.1, hq.2.2.2⟩ hz2 _)) ?_
  rintro v2 w5 ⟨o2, k5⟩
  refine ⟨k5, ?_⟩
  have gl_o2 := hB.size
  have sb_b1_o2 := fun x hx => (show x ≠ b1 from by have h1 := (o2.blk x hx).1; have h2 := hb1.lt; omega)
  have sb_b2_o2 := fun x hx => (show x ≠ b2 from by have h1 := (o2.blk x hx).1; have h2 := hb2.lt; omega)
  replace hb1 := hb1.keep0 k5
  replace hb2 := hb2.keep0 k5
  replace o1 := o1.keep0 k5
  replace hB := hB.trans k5
  have u_o2 := o2.blk
  refine pw_d [(6, _), (8, _)] rfl rfl ⟨rfl, rfl, trivial⟩ rfl (d_call (vs := [_, _]) rfl (equal_any _ _ (encB (X1 * inv Z1) (Y1 * inv Z1)) (encB (X2 * inv Z2) (Y2 * inv Z2)) _ o1.rd o2.rd)) ?_
  rintro _ w6 ⟨rfl, k6⟩
  refine ⟨k6, ?_⟩
  replace hb1 := hb1.keep0 k6
  replace hb2 := hb2.keep0 k6
  replace o1 := o1.keep0 k6
  replace o2 := o2.keep0 k6
  replace hB := hB.trans k6
  refine pw_nil ?_
  refine ow_g (g_as rfl) rfl ?_
  refine ow_nil ?_
  refine tw_keep [(4, _)] ⟨rfl, trivial⟩ ?_
  refine tw_ret1 hfin Try.results14 rfl ?_
  exact ⟨rfl, hB⟩

end Go.Proofs.Ytkngeapegpehpaa.W
