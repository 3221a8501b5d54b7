import Derived.Test.YtkngeapegpehpaaPtb
import Derived.Test.YtkngeapegpehpaaEngP
namespace Go.Proofs.Ytkngeapegpehpaa.W
open Go Go.Eng Go.Byt
set_option linter.unusedVariables false
set_option linter.unusedSimpArgs false
open Go.Fld Go.Ed
theorem iv5_ext (f : Nat → Int) : (iv .u64 5 f).toArray.extract 0 (0 + 5) = (iv .u64 5 f).toArray := by rw [List.extract_toArray]; rfl
theorem iv20_ext (f : Nat → Int) : (iv .u64 20 f).toArray.extract 0 (0 + 5) = (iv .u64 5 f).toArray ∧ (iv .u64 20 f).toArray.extract 5 (5 + 5) = (iv .u64 5 (fun i => f (5 + i))).toArray ∧ (iv .u64 20 f).toArray.extract 10 (10 + 5) = (iv .u64 5 (fun i => f (10 + i))).toArray ∧ (iv .u64 20 f).toArray.extract 15 (15 + 5) = (iv .u64 5 (fun i => f (15 + i))).toArray := by
  refine ⟨?_, ?_, ?_, ?_⟩ <;> (rw [List.extract_toArray]; rfl)
def eq5 (f g : Nat → Int) : Bool := (List.range 5).all fun i => f i == g i
theorem num_eq (w : World) (d : Nat) (f g : Nat → Int) : (Op.equalIn (d + 3) 28 (.agg (iv .u64 5 f).toArray) (.agg (iv .u64 5 g).toArray)).run Try.prog w = .ok (eq5 f g && true) w :=
  run_eqst w Try.underlying28 (by kernel_rfl) (eqf_cons w rfl ag26 ty26 (by rw [show (0 : Nat) + 5 = 5 from rfl]; exact (iv5_ext f ▸ iv5_ext g ▸ run_eqiv w (d := d) Try.underlying26 Try.underlying24 ty24 f g)) (eqf_nil w (d + 2) (iv .u64 5 f).toArray (iv .u64 5 g).toArray))
theorem pt_eq (w : World) (f g : Nat → Int) : (Op.equalIn 10000 30 (.agg (iv .u64 20 f).toArray) (.agg (iv .u64 20 g).toArray)).run Try.prog w = .ok ((eq5 f g && true) && ((eq5 (fun i => f (5 + i)) (fun i => g (5 + i)) && true) && ((eq5 (fun i => f (10 + i)) (fun i => g (10 + i)) && true) && ((eq5 (fun i => f (15 + i)) (fun i => g (15 + i)) && true) && true)))) w := by
  obtain ⟨a1, a2, a3, a4⟩ := iv20_ext f
  obtain ⟨b1, b2, b3, b4⟩ := iv20_ext g
  refine run_eqst w Try.underlying30 (by kernel_rfl) (eqf_cons w rfl ag28 ty28 ?_ (eqf_cons w rfl ag28 ty28 ?_ (eqf_cons w rfl ag28 ty28 ?_ (eqf_cons w rfl ag28 ty28 ?_ (eqf_nil w 9999 (iv .u64 20 f).toArray (iv .u64 20 g).toArray)))))
  · exact a1 ▸ b1 ▸ num_eq w 9996 _ _
  · exact a2 ▸ b2 ▸ num_eq w 9996 _ _
  · exact a3 ▸ b3 ▸ num_eq w 9996 _ _
  · exact a4 ▸ b4 ▸ num_eq w 9996 _ _
theorem eq5_zero {f : Nat → Int} {g : Nat → Int} {a : Fp} (h : eq5 f (fun _ => 0) = true) (hg : El g a) (h0 : g 0 = f 0 ∧ g 1 = f 1 ∧ g 2 = f 2 ∧ g 3 = f 3 ∧ g 4 = f 4) : a = 0 := by
  have e := fun i hi => eq_of_beq (List.all_eq_true.1 h i (List.mem_range.2 hi))
  obtain ⟨g0, g1, g2, g3, g4⟩ := h0
  obtain ⟨_, _, _, _, _, hv⟩ := hg
  rw [← hv]; unfold val5
  rw [g0, g1, g2, g3, g4, e 0 (by decide), e 1 (by decide), e 2 (by decide), e 3 (by decide), e 4 (by decide)]
  decide
theorem full_ne {p : Nat → Int} {X Y Z T : Fp} (h : PtEl p X Y Z T) (hz : Z ≠ 0) : ((eq5 p (fun _ => 0) && true) && ((eq5 (fun i => p (5 + i)) (fun _ => 0) && true) && ((eq5 (fun i => p (10 + i)) (fun _ => 0) && true) && ((eq5 (fun i => p (15 + i)) (fun _ => 0) && true) && true)))) = false := by
  cases he : eq5 (fun i => p (10 + i)) (fun _ => 0) with
  | true => exact absurd (eq5_zero he h.2.2.1 ⟨rfl, rfl, rfl, rfl, rfl⟩) hz
  | false => simp
set_option maxRecDepth 100000 in
theorem full_any (p : Nat → Int) (X Y Z T : Fp) (hp : PtEl p X Y Z T) (hz : Z ≠ 0) (w : World) : Rets Try.prog 54 [.agg (iv .u64 20 p).toArray] w (fun v w' => ∃ r, v = .agg (iv .u64 20 r).toArray ∧ PtEl r X Y Z T ∧ Keep [] w w') := by
  have hB : Keep [] w w := Keep.refl _ _
  refine rets_of_tw Try.func54 rfl (by decide) Try.ntmps54 rfl (fun fin _ hfin => ?_)
  refine tw_seq ?_
  refine tw_region ?_
  refine ow_d (d_box (cs := [.int .u64 (p 0), .int .u64 (p 1), .int .u64 (p 2), .int .u64 (p 3), .int .u64 (p 4), .int .u64 (p 5), .int .u64 (p 6), .int .u64 (p 7), .int .u64 (p 8), .int .u64 (p 9), .int .u64 (p 10), .int .u64 (p 11), .int .u64 (p 12), .int .u64 (p 13), .int .u64 (p 14), .int .u64 (p 15), .int .u64 (p 16), .int .u64 (p 17), .int .u64 (p 18), .int .u64 (p 19)]) rfl rfl) rfl ?_
  rintro _ w1 ⟨b1, rfl, eb1, hb1, k1, z1⟩
  have ge_b1 : w.heap.size ≤ b1 := by have := hB.size; omega
  replace hB := hB.trans k1
  clear eb1 z1
  refine ow_d (d_alloc ty30) rfl ?_
  rintro _ w2 ⟨b2, rfl, eb2, hb2, k2, z2⟩
  have ge_b2 : w.heap.size ≤ b2 := by have := hB.size; omega
  have ne_b1_b2 : b1 ≠ b2 := by have := hb1.lt; omega
  replace hb1 := hb1.keep0 k2
  replace hB := hB.trans k2
  clear eb2 z2
  refine ow_nil ?_
  refine tw_keep [(1, _), (2, _)] ⟨rfl, rfl, trivial⟩ ?_
  refine tw_seq ?_
  refine tw_seq ?_
  refine tw_region ?_
  refine ow_g (g_ldab (cs' := [_, _, _, _, _, _, _, _, _, _, _, _, _, _, _, _, _, _, _, _]) ag30 ty30 rfl hb1 rfl rfl) rfl ?_
  refine ow_g (g_bld (idx := []) (xs := []) (vs := []) (css := []) (out := [_, _, _, _, _, _, _, _, _, _, _, _, _, _, _, _, _, _, _, _]) pl30 ty30 rfl rfl trivial rfl rfl) rfl ?_
  refine ow_g (g_eqst (by kernel_rfl) rfl rfl (pt_eq _ p (fun _ => 0))) rfl ?_
  refine ow_nil ?_
  refine tw_keep [(1, _), (2, _), (5, _)] ⟨rfl, rfl, rfl, trivial⟩ ?_
  refine tw_condF rfl (full_ne hp hz) ?_
  refine tw_skip ?_
  refine tw_seq ?_
  refine tw_region ?_
  refine ow_g (g_ldab (cs' := [_, _, _, _, _, _, _, _, _, _, _, _, _, _, _, _, _, _, _, _]) ag30 ty30 rfl hb1 rfl rfl) rfl ?_
  refine ow_d0 (d_sta ty30 rfl rfl rfl (by simp only [List.forall_mem_cons]; refine ⟨rfl, rfl, rfl, rfl, rfl, rfl, rfl, rfl, rfl, rfl, rfl, rfl, rfl, rfl, rfl, rfl, rfl, rfl, rfl, rfl, fun v hv => by cases hv⟩) hb2 rfl) ?_
  rintro _ w3 ⟨hb3, k3, z3⟩
  replace hb1 := hb1.keep k3 (fun hm => absurd (List.mem_singleton.1 hm) ne_b1_b2)
  replace hB := hB.new k3 (fun x hx => .inl ((List.mem_singleton.1 hx) ▸ ge_b2))
  clear z3
  replace hb3 : Bk w3 b2 _ [.int .u64 (p 0), .int .u64 (p 1), .int .u64 (p 2), .int .u64 (p 3), .int .u64 (p 4), .int .u64 (p 5), .int .u64 (p 6), .int .u64 (p 7), .int .u64 (p 8), .int .u64 (p 9), .int .u64 (p 10), .int .u64 (p 11), .int .u64 (p 12), .int .u64 (p 13), .int .u64 (p 14), .int .u64 (p 15), .int .u64 (p 16), .int .u64 (p 17), .int .u64 (p 18), .int .u64 (p 19)] := hb3
  refine ow_nil ?_
  refine tw_keep [(2, _)] ⟨rfl, trivial⟩ ?_
  refine tw_retc hfin Try.results54 rfl (run_loadAgg ag30 ty30 (by assumption) rfl)  ?_
  exact ⟨p, rfl, ⟨hp.1, hp.2.1, hp.2.2.1, hp.2.2.2⟩, hB⟩

set_option maxRecDepth 100000 in
theorem full_zero (w : World) : Rets Try.prog 54 [.agg (iv .u64 20 (fun _ => 0)).toArray] w (fun v w' => ∃ r, v = .agg (iv .u64 20 r).toArray ∧ PtEl r 0 (fp 1) (fp 1) (0 * fp 1) ∧ Keep [] w w') := by
  have hB : Keep [] w w := Keep.refl _ _
  refine rets_of_tw Try.func54 rfl (by decide) Try.ntmps54 rfl (fun fin _ hfin => ?_)
  refine tw_seq ?_
  refine tw_region ?_
  refine ow_d (d_box (cs := [.int .u64 ((fun _ => 0) 0), .int .u64 ((fun _ => 0) 1), .int .u64 ((fun _ => 0) 2), .int .u64 ((fun _ => 0) 3), .int .u64 ((fun _ => 0) 4), .int .u64 ((fun _ => 0) 5), .int .u64 ((fun _ => 0) 6), .int .u64 ((fun _ => 0) 7), .int .u64 ((fun _ => 0) 8), .int .u64 ((fun _ => 0) 9), .int .u64 ((fun _ => 0) 10), .int .u64 ((fun _ => 0) 11), .int .u64 ((fun _ => 0) 12), .int .u64 ((fun _ => 0) 13), .int .u64 ((fun _ => 0) 14), .int .u64 ((fun _ => 0) 15), .int .u64 ((fun _ => 0) 16), .int .u64 ((fun _ => 0) 17), .int .u64 ((fun _ => 0) 18), .int .u64 ((fun _ => 0) 19)]) rfl rfl) rfl ?_
  rintro _ w1 ⟨b1, rfl, eb1, hb1, k1, z1⟩
  have ge_b1 : w.heap.size ≤ b1 := by have := hB.size; omega
  replace hB := hB.trans k1
  clear eb1 z1
  refine ow_d (d_alloc ty30) rfl ?_
  rintro _ w2 ⟨b2, rfl, eb2, hb2, k2, z2⟩
  have ge_b2 : w.heap.size ≤ b2 := by have := hB.size; omega
  have ne_b1_b2 : b1 ≠ b2 := by have := hb1.lt; omega
  replace hb1 := hb1.keep0 k2
  replace hB := hB.trans k2
  clear eb2 z2
  refine ow_nil ?_
  refine tw_keep [(1, _), (2, _)] ⟨rfl, rfl, trivial⟩ ?_
  refine tw_seq ?_
  refine tw_seq ?_
  refine tw_region ?_
  refine ow_g (g_ldab (cs' := [_, _, _, _, _, _, _, _, _, _, _, _, _, _, _, _, _, _, _, _]) ag30 ty30 rfl hb1 rfl rfl) rfl ?_
  refine ow_g (g_bld (idx := []) (xs := []) (vs := []) (css := []) (out := [_, _, _, _, _, _, _, _, _, _, _, _, _, _, _, _, _, _, _, _]) pl30 ty30 rfl rfl trivial rfl rfl) rfl ?_
  refine ow_g (g_eqst (by kernel_rfl) rfl rfl (pt_eq _ (fun _ => 0) (fun _ => 0))) rfl ?_
  refine ow_nil ?_
  refine tw_keep [(1, _), (2, _), (5, _)] ⟨rfl, rfl, rfl, trivial⟩ ?_
  refine tw_condT rfl (by decide) ?_
  refine tw_seq ?_
  refine tw_region ?_
  refine ow_g (g_bld (idx := []) (xs := []) (vs := []) (css := []) (out := [_, _, _, _, _]) pl28 ty28 rfl rfl trivial rfl rfl) rfl ?_
  refine ow_d (d_call (vs := [_]) rfl (Small_any _ (by decide) _)) rfl ?_
  rintro _ w3 ⟨hh1, rfl, E1, k3⟩
  replace hb1 := hb1.keep0 k3
  replace hb2 := hb2.keep0 k3
  replace hB := hB.trans k3
  refine ow_d (d_call (vs := [_, _]) rfl (affine_any _ _ _ _ el_zero E1 _)) rfl ?_
  rintro _ w4 ⟨hh2, rfl, E2, k4⟩
  replace hb1 := hb1.keep0 k4
  replace hb2 := hb2.keep0 k4
  replace hB := hB.trans k4
  refine ow_d0 (d_sta ty30 rfl rfl rfl ivF_one hb2 rfl) ?_
  rintro _ w5 ⟨hb3, k5, z3⟩
  replace hb1 := hb1.keep k5 (fun hm => absurd (List.mem_singleton.1 hm) ne_b1_b2)
  replace hB := hB.new k5 (fun x hx => .inl ((List.mem_singleton.1 hx) ▸ ge_b2))
  clear z3
  replace hb3 : Bk w5 b2 _ [.int .u64 (hh2 0), .int .u64 (hh2 1), .int .u64 (hh2 2), .int .u64 (hh2 3), .int .u64 (hh2 4), .int .u64 (hh2 5), .int .u64 (hh2 6), .int .u64 (hh2 7), .int .u64 (hh2 8), .int .u64 (hh2 9), .int .u64 (hh2 10), .int .u64 (hh2 11), .int .u64 (hh2 12), .int .u64 (hh2 13), .int .u64 (hh2 14), .int .u64 (hh2 15), .int .u64 (hh2 16), .int .u64 (hh2 17), .int .u64 (hh2 18), .int .u64 (hh2 19)] := hb3
  refine ow_nil ?_
  refine tw_keep [(2, _)] ⟨rfl, trivial⟩ ?_
  refine tw_retc hfin Try.results54 rfl (run_loadAgg ag30 ty30 (by assumption) rfl)  ?_
  exact ⟨hh2, rfl, ⟨E2.1, E2.2.1, E2.2.2.1, E2.2.2.2⟩, hB⟩

end Go.Proofs.Ytkngeapegpehpaa.W
