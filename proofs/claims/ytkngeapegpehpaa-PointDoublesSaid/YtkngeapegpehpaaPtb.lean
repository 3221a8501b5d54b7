import Derived.Test.YtkngeapegpehpaaPta
import Derived.Test.YtkngeapegpehpaaEdw
namespace Go.Proofs.Ytkngeapegpehpaa.W
open Go Go.Eng Go.Byt
set_option linter.unusedVariables false
set_option linter.unusedSimpArgs false
open Go.Fld Go.Ed
theorem d_bytes : fp (leI [163, 120, 89, 19, 202, 77, 235, 117, 171, 216, 65, 65, 77, 10, 112, 0, 152, 232, 121, 119, 121, 64, 199, 140, 115, 254, 111, 43, 238, 108, 3, 82]) = d := by decide +kernel
set_option maxRecDepth 100000 in
theorem pd_any (w : World) : Rets Try.prog 40 [] w (fun v w' => ∃ h, v = .agg (iv .u64 5 h).toArray ∧ El h d ∧ Keep [] w w') := by
  have hB : Keep [] w w := Keep.refl _ _
  refine rets_of_tw Try.func40 rfl (by decide) Try.ntmps40 rfl (fun fin _ hfin => ?_)
  refine tw_seq ?_
  refine tw_region ?_
  refine ow_d (d_alloc ty28) rfl ?_
  rintro _ w1 ⟨b1, rfl, eb1, hb1, k1, z1⟩
  have ge_b1 : w.heap.size ≤ b1 := by have := hB.size; omega
  replace hB := hB.trans k1
  clear eb1 z1
  refine ow_nil ?_
  refine tw_keep [(0, _)] ⟨rfl, trivial⟩ ?_
  refine tw_seq ?_
  refine tw_region ?_
  refine ow_d (d_bs (m := 32) (xs := [.const (.int .u8 (163)), .const (.int .u8 (120)), .const (.int .u8 (89)), .const (.int .u8 (19)), .const (.int .u8 (202)), .const (.int .u8 (77)), .const (.int .u8 (235)), .const (.int .u8 (117)), .const (.int .u8 (171)), .const (.int .u8 (216)), .const (.int .u8 (65)), .const (.int .u8 (65)), .const (.int .u8 (77)), .const (.int .u8 (10)), .const (.int .u8 (112)), .const (.int .u8 (0)), .const (.int .u8 (152)), .const (.int .u8 (232)), .const (.int .u8 (121)), .const (.int .u8 (119)), .const (.int .u8 (121)), .const (.int .u8 (64)), .const (.int .u8 (199)), .const (.int .u8 (140)), .const (.int .u8 (115)), .const (.int .u8 (254)), .const (.int .u8 (111)), .const (.int .u8 (43)), .const (.int .u8 (238)), .const (.int .u8 (108)), .const (.int .u8 (3)), .const (.int .u8 (82))]) (vs := [_, _, _, _, _, _, _, _, _, _, _, _, _, _, _, _, _, _, _, _, _, _, _, _, _, _, _, _, _, _, _, _]) Try.underlying22 ty5 (by decide) rfl rfl rfl (by simp only [List.forall_mem_cons]; exact ⟨rfl, rfl, rfl, rfl, rfl, rfl, rfl, rfl, rfl, rfl, rfl, rfl, rfl, rfl, rfl, rfl, rfl, rfl, rfl, rfl, rfl, rfl, rfl, rfl, rfl, rfl, rfl, rfl, rfl, rfl, rfl, rfl, fun v hv => by cases hv⟩) (by decide)) rfl ?_
  rintro v1 w2 ⟨o1, nn1, lb1, k2, z2⟩
  have gl_o1 := hB.size
  have sb_b1_o1 := fun x hx => (show x ≠ b1 from by have h1 := (o1.blk x hx).1; have h2 := hb1.lt; omega)
  replace hb1 := hb1.keep0 k2
  replace hB := hB.trans k2
  have u_o1 := o1.blk
  replace o1 : Own w2 _ _ 1 v1 32 (bv [163, 120, 89, 19, 202, 77, 235, 117, 171, 216, 65, 65, 77, 10, 112, 0, 152, 232, 121, 119, 121, 64, 199, 140, 115, 254, 111, 43, 238, 108, 3, 82]) := o1
  refine ow_d (d_call (vs := [_]) rfl (from_any _ [163, 120, 89, 19, 202, 77, 235, 117, 171, 216, 65, 65, 77, 10, 112, 0, 152, 232, 121, 119, 121, 64, 199, 140, 115, 254, 111, 43, 238, 108, 3, 82] _ (by first | assumption | exact Own.rd (by assumption) | exact Rd.keep0 (by assumption) hB | exact Own.rd (Own.keep0 (by assumption) hB)) rfl)) rfl ?_
  rintro _ w3 ⟨hh1, rfl, E1, k3⟩
  replace hb1 := hb1.keep0 k3
  replace o1 := o1.keep0 k3
  replace hB := hB.trans k3
  refine ow_g (g_mv rfl) rfl ?_
  refine ow_g (g_ext (vs := [_, _]) rfl rfl) rfl ?_
  refine ow_g (g_ext (vs := [_, _]) rfl rfl) rfl ?_
  refine ow_d (d_alloc ty28) rfl ?_
  rintro _ w4 ⟨b2, rfl, eb2, hb2, k4, z3⟩
  have ge_b2 : w.heap.size ≤ b2 := by have := hB.size; omega
  have ne_b1_b2 : b1 ≠ b2 := by have := hb1.lt; omega
  have sb_b2_o1 := fun x hx => (show x ≠ b2 from by have := (o1.blk x hx).2; omega)
  replace hb1 := hb1.keep0 k4
  replace o1 := o1.keep0 k4
  replace hB := hB.trans k4
  clear eb2 z3
  refine ow_d0 (d_sta ty28 rfl rfl rfl ivF_one hb2 rfl) ?_
  rintro _ w5 ⟨hb3, k5, z4⟩
  replace hb1 := hb1.keep k5 (fun hm => absurd (List.mem_singleton.1 hm) ne_b1_b2)
  replace o1 := o1.keep k5 (fun x hx hm => sb_b2_o1 x hx (List.mem_singleton.1 hm))
  replace hB := hB.new k5 (fun x hx => .inl ((List.mem_singleton.1 hx) ▸ ge_b2))
  clear z4
  replace hb3 : Bk w5 b2 _ [.int .u64 (hh1 0), .int .u64 (hh1 1), .int .u64 (hh1 2), .int .u64 (hh1 3), .int .u64 (hh1 4)] := hb3
  refine ow_g (g_as rfl) rfl ?_
  refine ow_nil ?_
  refine tw_keep [(0, _), (1, _)] ⟨rfl, rfl, trivial⟩ ?_
  refine tw_seq ?_
  refine tw_region ?_
  refine ow_g (g_ldab (cs' := [_, _, _, _, _]) ag28 ty28 rfl hb3 rfl rfl) rfl ?_
  refine ow_d0 (d_sta ty28 rfl rfl rfl (by simp only [List.forall_mem_cons]; refine ⟨rfl, rfl, rfl, rfl, rfl, fun v hv => by cases hv⟩) hb1 rfl) ?_
  rintro _ w6 ⟨hb4, k6, z5⟩
  replace o1 := o1.keep k6 (fun x hx hm => sb_b1_o1 x hx (List.mem_singleton.1 hm))
  replace hb3 := hb3.keep k6 (fun hm => absurd (List.mem_singleton.1 hm) (Ne.symm ne_b1_b2))
  replace hB := hB.new k6 (fun x hx => .inl ((List.mem_singleton.1 hx) ▸ ge_b1))
  clear z5
  replace hb4 : Bk w6 b1 _ [.int .u64 (hh1 0), .int .u64 (hh1 1), .int .u64 (hh1 2), .int .u64 (hh1 3), .int .u64 (hh1 4)] := hb4
  refine ow_nil ?_
  refine tw_keep [(0, _)] ⟨rfl, trivial⟩ ?_
  refine tw_retc hfin Try.results40 rfl (run_loadAgg ag28 ty28 (by assumption) rfl)  ?_
  exact ⟨hh1, rfl, d_bytes ▸ E1, hB⟩

end Go.Proofs.Ytkngeapegpehpaa.W
