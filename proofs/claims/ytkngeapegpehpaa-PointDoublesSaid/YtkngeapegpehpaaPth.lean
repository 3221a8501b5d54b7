import Derived.Test.YtkngeapegpehpaaPtg
namespace Go.Proofs.Ytkngeapegpehpaa.W
open Go Go.Eng Go.Byt
set_option linter.unusedVariables false
set_option linter.unusedSimpArgs false
open Go.Fld Go.Ed
set_option maxRecDepth 100000 in
set_option maxHeartbeats 1000000 in
theorem Pdecode_no (v : Value) (xs : List UInt8) (w : World) (hv : RdB w v xs) (hx : xs.length ≠ 32) : Rets Try.prog 9 [v] w (fun v w' => v = .tuple #[.agg (iv .u64 20 (fun _ => 0)).toArray, .int .i64 1] ∧ Keep [] w w') := by
  have hB : Keep [] w w := Keep.refl _ _
  refine rets_of_tw Try.func9 rfl (by decide) Try.ntmps9 rfl (fun fin _ hfin => ?_)
  refine tw_seq ?_
  refine tw_region ?_
  refine ow_d (d_alloc ty30) rfl ?_
  rintro _ w1 ⟨b1, rfl, eb1, hb1, k1, z1⟩
  have ge_b1 : w.heap.size ≤ b1 := by have := hB.size; omega
  replace hB := hB.trans k1
  clear eb1 z1
  refine ow_g (g_as rfl) rfl ?_
  refine ow_nil ?_
  refine tw_keep [(0, _), (2, _)] ⟨rfl, rfl, trivial⟩ ?_
  refine tw_seq ?_
  refine tw_seq ?_
  refine tw_region ?_
  refine ow_g (g_mv rfl) rfl ?_
  refine ow_g (g_len Try.underlying22 rfl (by first | assumption | exact Own.rd (by assumption) | exact Rd.keep0 (by assumption) hB | exact Own.rd (Own.keep0 (by assumption) hB))) rfl ?_
  refine ow_g (g_ne rfl rfl) rfl ?_
  refine ow_nil ?_
  refine tw_keep [(0, _), (2, _), (16, _)] ⟨rfl, rfl, rfl, trivial⟩ ?_
  refine tw_ifT rfl (by omega) ?_
  refine tw_seq ?_
  refine tw_region ?_
  refine ow_g (g_bld (idx := []) (xs := []) (vs := []) (css := []) (out := [_, _, _, _, _, _, _, _, _, _, _, _, _, _, _, _, _, _, _, _]) pl30 ty30 rfl rfl trivial rfl rfl) rfl ?_
  refine ow_d0 (d_sta ty30 rfl rfl rfl (by simp only [List.forall_mem_cons]; refine ⟨rfl, rfl, rfl, rfl, rfl, rfl, rfl, rfl, rfl, rfl, rfl, rfl, rfl, rfl, rfl, rfl, rfl, rfl, rfl, rfl, fun v hv => by cases hv⟩) hb1 rfl) ?_
  rintro _ w2 ⟨hb2, k2, z2⟩
  replace hB := hB.new k2 (fun x hx => .inl ((List.mem_singleton.1 hx) ▸ ge_b1))
  clear z2
  replace hb2 : Bk w2 b1 _ [.int .u64 0, .int .u64 0, .int .u64 0, .int .u64 0, .int .u64 0, .int .u64 0, .int .u64 0, .int .u64 0, .int .u64 0, .int .u64 0, .int .u64 0, .int .u64 0, .int .u64 0, .int .u64 0, .int .u64 0, .int .u64 0, .int .u64 0, .int .u64 0, .int .u64 0, .int .u64 0] := hb2
  refine ow_g (g_as rfl) rfl ?_
  refine ow_nil ?_
  refine tw_keep [(2, _), (3, _)] ⟨rfl, rfl, trivial⟩ ?_
  refine tw_retct hfin Try.results9 rfl (run_loadAgg ag30 ty30 (by assumption) rfl) rfl ?_
  exact ⟨rfl, hB⟩

def baseB : List UInt8 := [88, 102, 102, 102, 102, 102, 102, 102, 102, 102, 102, 102, 102, 102, 102, 102, 102, 102, 102, 102, 102, 102, 102, 102, 102, 102, 102, 102, 102, 102, 102, 102]
def basePt : Pt := (⟨15112221349535400772501151409588531511454012693041857206046113283949847762202, by decide⟩, ⟨46316835694926478169428394003475163141307993866256225615783033603165251855960, by decide⟩)
theorem base_on : OnP basePt := by unfold OnP On; decide +kernel
theorem base_low : decLow baseB = baseB := by decide +kernel
theorem base_y : decY baseB = basePt.2 := by unfold decY; rw [base_low]; decide +kernel
theorem baseB_set : (bv (repN 102 32)).set 0 (.int .u8 88) = bv baseB := by
  rw [bv_setB (by decide)]; congr 1
def bU : Fp := (⟨37053468555941182535542715202780130513046395093004980492626426882532201484767, by decide⟩ : Fp)
def bV : Fp := (⟨35320460721920060721965471946471712506633951349663716574434581141966314745466, by decide⟩ : Fp)
def bI : Fp := (⟨36615873626505047815401509688526422966742341385236691817538452001808239043262, by decide⟩ : Fp)
def bQ : Fp := (⟨26187595835145689230469591415084376402084551887632582719101735842039498021991, by decide⟩ : Fp)
def bR : Fp := (⟨42783823269122696939284341094755422415180979639778424813682678720006717057747, by decide⟩ : Fp)
def bS : Fp := (⟨42783823269122696939284341094755422415180979639778424813682678720006717057747, by decide⟩ : Fp)
theorem base_U : decU basePt.2 = bU := by decide +kernel
theorem base_V : decV basePt.2 = bV := by decide +kernel
theorem base_Q : bU * inv bV = bQ := by rw [inv_unique (show bV * bI = 1 by decide +kernel)]; decide +kernel
theorem base_r0 : root0 bQ = bR := Fin.ext (by unfold root0; rw [fpow_pw _ _ (by decide)]; decide +kernel)
theorem base_r1 : root1 bQ = bS := by
  unfold root1
  rw [base_r0]
  rw [if_pos (by decide +kernel)]; decide +kernel
theorem base_ok : rootOk bU bV = true := by unfold rootOk; rw [base_Q, base_r1]; decide +kernel
theorem base_F : rootF bU bV = basePt.1 := by unfold rootF; rw [base_ok, base_Q, base_r1]; decide +kernel
theorem base_E : decE baseB = 0 := by
  have hl : ¬ baseB.length ≠ 32 := by decide
  have ho : decOdd baseB = false := by decide +kernel
  unfold decE
  rw [if_neg hl, base_y, base_low, if_neg (by decide +kernel), base_U, base_V, base_ok, ho]; rfl
theorem base_X : decX baseB = basePt.1 := by
  have ho : decOdd baseB = false := by decide +kernel
  unfold decX
  rw [ho, base_y, base_U, base_V, base_F]; rfl
theorem Pdecode_base (v : Value) (w : World) (hv : RdB w v baseB) : Rets Try.prog 9 [v] w (fun v w' => ∃ p, v = .tuple #[.agg (iv .u64 20 p).toArray, .int .i64 0] ∧ PtR p basePt ∧ Keep [] w w') :=
  (Pdecode_32 v baseB w hv (by decide)).mono fun r w' ⟨p, e, h, _, k⟩ => ⟨p, by rw [e, base_E], by have := h base_E; rw [base_X, base_y] at this; exact ptr_affine this, k⟩
set_option maxRecDepth 100000 in
set_option maxHeartbeats 1000000 in
theorem Pbase_any (w : World) : Rets Try.prog 18 [] w (fun v w' => ∃ p, v = .agg (iv .u64 20 p).toArray ∧ PtR p basePt ∧ Keep [] w w') := by
  have hB : Keep [] w w := Keep.refl _ _
  refine rets_of_tw Try.func18 rfl (by decide) Try.ntmps18 rfl (fun fin _ hfin => ?_)
  refine tw_seq ?_
  refine tw_region ?_
  refine ow_d (d_alloc ty30) rfl ?_
  rintro _ w1 ⟨b1, rfl, eb1, hb1, k1, z1⟩
  have ge_b1 : w.heap.size ≤ b1 := by have := hB.size; omega
  replace hB := hB.trans k1
  clear eb1 z1
  refine ow_nil ?_
  refine tw_keep [(0, _)] ⟨rfl, trivial⟩ ?_
  refine tw_seq ?_
  refine tw_region ?_
  refine ow_d (d_bs (m := 1) (xs := [.const (.int .u8 (102))]) (vs := [_]) Try.underlying22 ty5 (by decide) rfl rfl rfl (by first | (simp; done) | (intro v hv; rw [List.mem_singleton] at hv; subst hv; rfl)) (by decide)) rfl ?_
  rintro v1 w2 ⟨o1, nn1, lb1, k2, z2⟩
  have gl_o1 := hB.size
  have sb_b1_o1 := fun x hx => (show x ≠ b1 from by have h1 := (o1.blk x hx).1; have h2 := hb1.lt; omega)
  replace hb1 := hb1.keep0 k2
  replace hB := hB.trans k2
  have u_o1 := o1.blk
  replace o1 : Own w2 _ _ 1 v1 1 (bv [102]) := o1
  refine ow_d (d_call (vs := [_, _]) rfl (repeat_any _ 102 _ (o1).rd)) rfl ?_
  rintro v2 w3 ⟨o2, k3⟩
  have gl_o2 := hB.size
  have sb_b1_o2 := fun x hx => (show x ≠ b1 from by have h1 := (o2.blk x hx).1; have h2 := hb1.lt; omega)
  replace hb1 := hb1.keep0 k3
  replace o1 := o1.keep0 k3
  replace hB := hB.trans k3
  have u_o2 := o2.blk
  refine ow_g (g_as rfl) rfl ?_
  refine ow_nil ?_
  refine tw_keep [(0, _), (1, _)] ⟨rfl, rfl, trivial⟩ ?_
  refine tw_seq ?_
  refine tw_region ?_
  refine ow_g (g_mv rfl) rfl ?_
  refine ow_g (g_ix Try.underlying22 ty5 rfl (by first | assumption | exact Own.rd (by assumption) | exact Rd.keep0 (by assumption) hB | exact Own.rd (Own.keep0 (by assumption) hB)) rfl (by omega)) rfl ?_
  refine ow_d0 (d_sto (u := .int .u8 88) ty5 rfl rfl rfl o2 (by decide)) ?_
  rintro _ w99 ⟨ow2, k99, z99⟩
  replace hB := hB.new k99 (fun x hx => .inl (Nat.le_trans gl_o2 (o2.blk x hx).1))
  replace ow2 : OwnB w99 w.heap.size v2 baseB := by have e := ow2.lo gl_o2; rw [show (0 : Int).toNat * 1 = 0 from rfl, baseB_set] at e; exact e
  replace hb1 := hb1.keep k99 (fun hm => sb_b1_o2 _ hm rfl)
  refine ow_nil ?_
  refine tw_keep [(0, _), (1, _)] ⟨rfl, rfl, trivial⟩ ?_
  refine tw_seq ?_
  refine tw_region ?_
  refine ow_g (g_mv rfl) rfl ?_
  refine ow_d (d_call (vs := [_]) rfl (Pdecode_base _ _ ow2.rd)) rfl ?_
  rintro _ w4 ⟨hh1, rfl, E1, k4⟩
  replace hb1 := hb1.keep0 k4
  replace ow2 := ow2.keep0 k4
  replace hB := hB.trans k4
  refine ow_g (g_mv rfl) rfl ?_
  refine ow_g (g_ext (vs := [_, _]) rfl rfl) rfl ?_
  refine ow_g (g_ext (vs := [_, _]) rfl rfl) rfl ?_
  refine ow_d (d_alloc ty30) rfl ?_
  rintro _ w5 ⟨b2, rfl, eb2, hb2, k5, z3⟩
  have ge_b2 : w.heap.size ≤ b2 := by have := hB.size; omega
  have ne_b1_b2 : b1 ≠ b2 := by have := hb1.lt; omega
  have sb_b2_ow2 := fun x hx => (show x ≠ b2 from by have := (ow2.blk x hx).2; omega)
  replace hb1 := hb1.keep0 k5
  replace ow2 := ow2.keep0 k5
  replace hB := hB.trans k5
  clear eb2 z3
  refine ow_d0 (d_sta ty30 rfl rfl rfl ivF_one hb2 rfl) ?_
  rintro _ w6 ⟨hb3, k6, z4⟩
  replace hb1 := hb1.keep k6 (fun hm => absurd (List.mem_singleton.1 hm) ne_b1_b2)
  replace ow2 := ow2.keep k6 (fun x hx hm => sb_b2_ow2 x hx (List.mem_singleton.1 hm))
  replace hB := hB.new k6 (fun x hx => .inl ((List.mem_singleton.1 hx) ▸ ge_b2))
  clear z4
  replace hb3 : Bk w6 b2 _ [.int .u64 (hh1 0), .int .u64 (hh1 1), .int .u64 (hh1 2), .int .u64 (hh1 3), .int .u64 (hh1 4), .int .u64 (hh1 5), .int .u64 (hh1 6), .int .u64 (hh1 7), .int .u64 (hh1 8), .int .u64 (hh1 9), .int .u64 (hh1 10), .int .u64 (hh1 11), .int .u64 (hh1 12), .int .u64 (hh1 13), .int .u64 (hh1 14), .int .u64 (hh1 15), .int .u64 (hh1 16), .int .u64 (hh1 17), .int .u64 (hh1 18), .int .u64 (hh1 19)] := hb3
  refine ow_g (g_as rfl) rfl ?_
  refine ow_nil ?_
  refine tw_keep [(0, _), (2, _)] ⟨rfl, rfl, trivial⟩ ?_
  refine tw_seq ?_
  refine tw_region ?_
  refine ow_g (g_ldab (cs' := [_, _, _, _, _, _, _, _, _, _, _, _, _, _, _, _, _, _, _, _]) ag30 ty30 rfl hb3 rfl rfl) rfl ?_
  refine ow_d0 (d_sta ty30 rfl rfl rfl (by simp only [List.forall_mem_cons]; refine ⟨rfl, rfl, rfl, rfl, rfl, rfl, rfl, rfl, rfl, rfl, rfl, rfl, rfl, rfl, rfl, rfl, rfl, rfl, rfl, rfl, fun v hv => by cases hv⟩) hb1 rfl) ?_
  rintro _ w7 ⟨hb4, k7, z5⟩
  replace ow2 := ow2.keep k7 (fun x hx hm => sb_b1_o2 x hx (List.mem_singleton.1 hm))
  replace hb3 := hb3.keep k7 (fun hm => absurd (List.mem_singleton.1 hm) (Ne.symm ne_b1_b2))
  replace hB := hB.new k7 (fun x hx => .inl ((List.mem_singleton.1 hx) ▸ ge_b1))
  clear z5
  replace hb4 : Bk w7 b1 _ [.int .u64 (hh1 0), .int .u64 (hh1 1), .int .u64 (hh1 2), .int .u64 (hh1 3), .int .u64 (hh1 4), .int .u64 (hh1 5), .int .u64 (hh1 6), .int .u64 (hh1 7), .int .u64 (hh1 8), .int .u64 (hh1 9), .int .u64 (hh1 10), .int .u64 (hh1 11), .int .u64 (hh1 12), .int .u64 (hh1 13), .int .u64 (hh1 14), .int .u64 (hh1 15), .int .u64 (hh1 16), .int .u64 (hh1 17), .int .u64 (hh1 18), .int .u64 (hh1 19)] := hb4
  refine ow_nil ?_
  refine tw_keep [(0, _)] ⟨rfl, trivial⟩ ?_
  refine tw_retc hfin Try.results18 rfl (run_loadAgg ag30 ty30 (by assumption) rfl)  ?_
  exact ⟨hh1, rfl, E1, hB⟩

end Go.Proofs.Ytkngeapegpehpaa.W
