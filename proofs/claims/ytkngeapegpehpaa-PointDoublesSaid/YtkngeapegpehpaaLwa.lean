import Derived.Test.YtkngeapegpehpaaPtj
namespace Go.Proofs.Ytkngeapegpehpaa.W
open Go Go.Eng Go.Byt
set_option linter.unusedVariables false
set_option linter.unusedSimpArgs false
open Go.Fld Go.Ed
attribute [local irreducible] encB
def fit (xs : List UInt8) : List UInt8 := xs.take (min xs.length 32) ++ List.replicate (32 - min xs.length 32) 0
theorem fit_len (xs : List UInt8) : (fit xs).length = 32 := by unfold fit; rw [List.length_append, List.length_take, List.length_replicate]; omega
theorem fit_eq (xs : List UInt8) : (bv xs).take (min xs.length 32) ++ (List.replicate 32 (Value.int .u8 0)).drop (min xs.length 32) = bv (fit xs) := by
  unfold fit
  rw [bv_append, bv_take, List.drop_replicate, ← bv_zeros]
set_option maxRecDepth 100000 in
set_option maxHeartbeats 1000000 in
theorem fit_any (v : Value) (xs : List UInt8) (w : World) (hv : RdB w v xs) : Rets Try.prog 24 [v] w (fun r w' => Own w' w.heap.size 5 1 r 32 (bv (fit xs)) ∧ Keep [] w w') := by
  have hB : Keep [] w w := Keep.refl _ _
  refine rets_of_tw Try.func24 rfl (by decide) Try.ntmps24 rfl (fun fin _ hfin => ?_)
  refine tw_seq ?_
  refine tw_region ?_
  refine ow_g (g_as rfl) rfl ?_
  refine ow_nil ?_
  refine tw_seq ?_
  refine tw_region ?_
  refine ow_d (d_mk Try.underlying22 ty5 rfl rfl (by omega) (by constructor <;> omega)) rfl ?_
  rintro q w1 ⟨o1, _, hvb, k1, _⟩
  have o2 : Own w1 w.heap.size 5 1 q 32 (List.replicate 32 (.int .u8 0)) := o1.lo hB.size
  clear o1
  replace hv := hv.keep0 k1
  replace hB := hB.trans k1
  refine ow_g (g_as rfl) rfl ?_
  refine ow_nil ?_
  refine tw_seq ?_
  refine tw_region ?_
  refine ow_g (g_mv rfl) rfl ?_
  refine ow_g (g_mv rfl) rfl ?_
  refine ow_d (d_cp Try.underlying22 ty5 rfl o2 rfl hv (bv_one _) rfl) rfl ?_
  rintro _ w2 ⟨rfl, o3, k2, z2⟩
  replace hB := hB.new k2 (fun x hx => .inl (o2.blk x hx).1)
  rw [fit_eq] at o3
  refine ow_nil ?_
  refine tw_seq ?_
  refine tw_region ?_
  refine ow_g (g_mv rfl) rfl ?_
  refine ow_g (g_as rfl) rfl ?_
  refine ow_nil ?_
  refine tw_ret1 hfin Try.results24 rfl ?_
  exact ⟨o3, hB⟩

set_option maxRecDepth 100000 in
set_option maxHeartbeats 1000000 in
theorem num_any (e : Int) (w : World) : Rets Try.prog 11 [.int .i64 e] w (fun r w' => r = .int .i64 e ∧ w = w') := by
  refine rets_of_tw Try.func11 rfl (by decide) Try.ntmps11 rfl (fun fin _ hfin => ?_)
  refine tw_seq ?_
  refine tw_region ?_
  refine ow_g (g_as rfl) rfl ?_
  refine ow_nil ?_
  refine tw_seq ?_
  refine tw_region ?_
  refine ow_g (g_mv rfl) rfl ?_
  refine ow_g (g_as rfl) rfl ?_
  refine ow_nil ?_
  refine tw_ret1 hfin Try.results11 rfl ?_
  exact ⟨rfl, rfl⟩

set_option maxRecDepth 100000 in
set_option maxHeartbeats 1000000 in
theorem some_any (v : Value) (xs : List UInt8) (w : World) (hv : RdB w v xs) : Rets Try.prog 22 [v] w (fun r w' => ∃ p, r = .agg (iv .u64 20 p).toArray ∧ PtR p (pmul (leI (fit xs)).toNat basePt) ∧ Keep [] w w') := by
  have hB : Keep [] w w := Keep.refl _ _
  refine rets_of_tw Try.func22 rfl (by decide) Try.ntmps22 rfl (fun fin _ hfin => ?_)
  refine tw_seq ?_
  refine tw_region ?_
  refine ow_d (d_alloc ty30) rfl ?_
  rintro _ w1 ⟨b1, rfl, eb1, hb1, k1, z1⟩
  have ge_b1 : w.heap.size ≤ b1 := by have := hB.size; omega
  replace hB := hB.trans k1
  clear eb1 z1
  refine ow_nil ?_
  refine tw_keep [(0, _), (2, _)] ⟨rfl, rfl, trivial⟩ ?_
  refine tw_seq ?_
  refine tw_region ?_
  refine ow_d (d_call (vs := []) rfl (Pbase_any _)) rfl ?_
  rintro _ w2 ⟨hh1, rfl, E1, k2⟩
  replace hb1 := hb1.keep0 k2
  replace hB := hB.trans k2
  refine ow_g (g_mv rfl) rfl ?_
  refine ow_d (d_call (vs := [_]) rfl (fit_any _ xs _ (by first | assumption | exact Own.rd (by assumption) | exact Rd.keep0 (by assumption) hB | exact Own.rd (Own.keep0 (by assumption) hB)))) rfl ?_
  rintro v1 w3 ⟨o1, k3⟩
  have gl_o1 := hB.size
  have sb_b1_o1 := fun x hx => (show x ≠ b1 from by have h1 := (o1.blk x hx).1; have h2 := hb1.lt; omega)
  replace hb1 := hb1.keep0 k3
  replace hB := hB.trans k3
  have u_o1 := o1.blk
  refine ow_d (d_call (vs := [_, _]) rfl (Ptimes_32 _ _ _ _ E1 base_on _ (by show Rd _ 1 _ _ _; rw [fit_len]; exact o1.rd) (fit_len _))) rfl ?_
  rintro _ w4 ⟨hh2, rfl, E2, k4⟩
  replace hb1 := hb1.keep0 k4
  replace o1 := o1.keep0 k4
  replace hB := hB.trans k4
  refine ow_g (g_mv rfl) rfl ?_
  refine ow_g (g_ext (vs := [_, _]) rfl rfl) rfl ?_
  refine ow_g (g_ext (vs := [_, _]) rfl rfl) rfl ?_
  refine ow_d (d_alloc ty30) rfl ?_
  rintro _ w5 ⟨b2, rfl, eb2, hb2, k5, z2⟩
  have ge_b2 : w.heap.size ≤ b2 := by have := hB.size; omega
  have ne_b1_b2 : b1 ≠ b2 := by have := hb1.lt; omega
  have sb_b2_o1 := fun x hx => (show x ≠ b2 from by have := (o1.blk x hx).2; omega)
  replace hb1 := hb1.keep0 k5
  replace o1 := o1.keep0 k5
  replace hB := hB.trans k5
  clear eb2 z2
  refine ow_d0 (d_sta ty30 rfl rfl rfl ivF_one hb2 rfl) ?_
  rintro _ w6 ⟨hb3, k6, z3⟩
  replace hb1 := hb1.keep k6 (fun hm => absurd (List.mem_singleton.1 hm) ne_b1_b2)
  replace o1 := o1.keep k6 (fun x hx hm => sb_b2_o1 x hx (List.mem_singleton.1 hm))
  replace hB := hB.new k6 (fun x hx => .inl ((List.mem_singleton.1 hx) ▸ ge_b2))
  clear z3
  replace hb3 : Bk w6 b2 _ [.int .u64 (hh2 0), .int .u64 (hh2 1), .int .u64 (hh2 2), .int .u64 (hh2 3), .int .u64 (hh2 4), .int .u64 (hh2 5), .int .u64 (hh2 6), .int .u64 (hh2 7), .int .u64 (hh2 8), .int .u64 (hh2 9), .int .u64 (hh2 10), .int .u64 (hh2 11), .int .u64 (hh2 12), .int .u64 (hh2 13), .int .u64 (hh2 14), .int .u64 (hh2 15), .int .u64 (hh2 16), .int .u64 (hh2 17), .int .u64 (hh2 18), .int .u64 (hh2 19)] := hb3
  refine ow_g (g_as rfl) rfl ?_
  refine ow_nil ?_
  refine tw_keep [(2, _), (3, _)] ⟨rfl, rfl, trivial⟩ ?_
  refine tw_seq ?_
  refine tw_region ?_
  refine ow_g (g_ldab (cs' := [_, _, _, _, _, _, _, _, _, _, _, _, _, _, _, _, _, _, _, _]) ag30 ty30 rfl hb3 rfl rfl) rfl ?_
  refine ow_d0 (d_sta ty30 rfl rfl rfl (by simp only [List.forall_mem_cons]; refine ⟨rfl, rfl, rfl, rfl, rfl, rfl, rfl, rfl, rfl, rfl, rfl, rfl, rfl, rfl, rfl, rfl, rfl, rfl, rfl, rfl, fun v hv => by cases hv⟩) hb1 rfl) ?_
  rintro _ w7 ⟨hb4, k7, z4⟩
  replace o1 := o1.keep k7 (fun x hx hm => sb_b1_o1 x hx (List.mem_singleton.1 hm))
  replace hb3 := hb3.keep k7 (fun hm => absurd (List.mem_singleton.1 hm) (Ne.symm ne_b1_b2))
  replace hB := hB.new k7 (fun x hx => .inl ((List.mem_singleton.1 hx) ▸ ge_b1))
  clear z4
  replace hb4 : Bk w7 b1 _ [.int .u64 (hh2 0), .int .u64 (hh2 1), .int .u64 (hh2 2), .int .u64 (hh2 3), .int .u64 (hh2 4), .int .u64 (hh2 5), .int .u64 (hh2 6), .int .u64 (hh2 7), .int .u64 (hh2 8), .int .u64 (hh2 9), .int .u64 (hh2 10), .int .u64 (hh2 11), .int .u64 (hh2 12), .int .u64 (hh2 13), .int .u64 (hh2 14), .int .u64 (hh2 15), .int .u64 (hh2 16), .int .u64 (hh2 17), .int .u64 (hh2 18), .int .u64 (hh2 19)] := hb4
  refine ow_nil ?_
  refine tw_keep [(2, _)] ⟨rfl, trivial⟩ ?_
  refine tw_retc hfin Try.results22 rfl (run_loadAgg ag30 ty30 (by assumption) rfl)  ?_
  exact ⟨hh2, rfl, E2, hB⟩

def zeroB : List UInt8 := 1 :: List.replicate 31 0
theorem enc_base : encB basePt.1 basePt.2 = baseB := by unfold encB; decide +kernel
theorem enc_zero : encB zero.1 zero.2 = zeroB := by unfold encB; decide +kernel
theorem encB_len (x y : Fp) : (encB x y).length = 32 := by unfold encB; rw [List.length_set, fpB_length]
theorem PencBase {p : Nat → Int} (hp : PtR p basePt) (w : World) : Rets Try.prog 16 [.agg (iv .u64 20 p).toArray] w (fun v w' => Own w' w.heap.size 5 1 v 32 (bv baseB) ∧ Keep [] w w') := by
  have h := PencodeR hp w
  rw [enc_base] at h; exact h
theorem PencZero {p : Nat → Int} (hp : PtR p zero) (w : World) : Rets Try.prog 16 [.agg (iv .u64 20 p).toArray] w (fun v w' => Own w' w.heap.size 5 1 v 32 (bv zeroB) ∧ Keep [] w w') := by
  have h := PencodeR hp w
  rw [enc_zero] at h; exact h
set_option maxRecDepth 100000 in
set_option maxHeartbeats 1000000 in
theorem knows_any (w : World) : Rets Try.prog 13 [] w (fun r w' => r = .bool true ∧ Keep [] w w') := by
  have hB : Keep [] w w := Keep.refl _ _
  refine rets_of_tw Try.func13 rfl (by decide) Try.ntmps13 rfl (fun fin _ hfin => ?_)
  refine tw_seq ?_
  refine tw_region ?_
  refine ow_g (g_as rfl) rfl ?_
  refine ow_nil ?_
  refine tw_keep [] trivial ?_
  refine tw_seq ?_
  refine tw_region ?_
  refine ow_d (d_call (vs := []) rfl (Pbase_any _)) rfl ?_
  rintro _ w1 ⟨hh1, rfl, E1, k1⟩
  replace hB := hB.trans k1
  refine ow_d (d_call (vs := [_]) rfl (PencBase E1 _)) rfl ?_
  rintro v1 w2 ⟨o1, k2⟩
  have gl_o1 := hB.size
  replace hB := hB.trans k2
  have u_o1 := o1.blk
  refine ow_g (g_as rfl) rfl ?_
  refine ow_nil ?_
  refine tw_keep [(1, _)] ⟨rfl, trivial⟩ ?_
  refine tw_seq ?_
  refine tw_region ?_
  refine ow_d (d_call (vs := []) rfl (PzeroR _)) rfl ?_
  rintro _ w3 ⟨hh2, rfl, E2, k3⟩
  replace o1 := o1.keep0 k3
  replace hB := hB.trans k3
  refine ow_d (d_call (vs := [_]) rfl (PencZero E2 _)) rfl ?_
  rintro v2 w4 ⟨o2, k4⟩
  have gl_o2 := hB.size
  replace o1 := o1.keep0 k4
  replace hB := hB.trans k4
  have u_o2 := o2.blk
  refine ow_g (g_as rfl) rfl ?_
  refine ow_nil ?_
  refine tw_keep [(1, _), (2, _)] ⟨rfl, rfl, trivial⟩ ?_
  refine tw_seq ?_
  refine tw_region ?_
  refine ow_d (d_call (vs := [_]) rfl (Pdecode_no _ [] _ (Rd.nil _ _) (by decide))) rfl ?_
  rintro _ w5 ⟨rfl, k5⟩
  replace o1 := o1.keep0 k5
  replace o2 := o2.keep0 k5
  replace hB := hB.trans k5
  refine ow_g (g_mv rfl) rfl ?_
  refine ow_g (g_ext (vs := [_, _]) rfl rfl) rfl ?_
  refine ow_g (g_ext (vs := [_, _]) rfl rfl) rfl ?_
  refine ow_d (d_alloc ty30) rfl ?_
  rintro _ w6 ⟨b1, rfl, eb1, hb1, k6, z1⟩
  have ge_b1 : w.heap.size ≤ b1 := by have := hB.size; omega
  have sb_b1_o1 := fun x hx => (show x ≠ b1 from by have := (o1.blk x hx).2; omega)
  have sb_b1_o2 := fun x hx => (show x ≠ b1 from by have := (o2.blk x hx).2; omega)
  replace o1 := o1.keep0 k6
  replace o2 := o2.keep0 k6
  replace hB := hB.trans k6
  clear eb1 z1
  refine ow_d0 (d_sta ty30 rfl rfl rfl ivF_one hb1 rfl) ?_
  rintro _ w7 ⟨hb2, k7, z2⟩
  replace o1 := o1.keep k7 (fun x hx hm => sb_b1_o1 x hx (List.mem_singleton.1 hm))
  replace o2 := o2.keep k7 (fun x hx hm => sb_b1_o2 x hx (List.mem_singleton.1 hm))
  replace hB := hB.new k7 (fun x hx => .inl ((List.mem_singleton.1 hx) ▸ ge_b1))
  clear z2
  replace hb2 : Bk w7 b1 _ [.int .u64 ((fun _ => 0) 0), .int .u64 ((fun _ => 0) 1), .int .u64 ((fun _ => 0) 2), .int .u64 ((fun _ => 0) 3), .int .u64 ((fun _ => 0) 4), .int .u64 ((fun _ => 0) 5), .int .u64 ((fun _ => 0) 6), .int .u64 ((fun _ => 0) 7), .int .u64 ((fun _ => 0) 8), .int .u64 ((fun _ => 0) 9), .int .u64 ((fun _ => 0) 10), .int .u64 ((fun _ => 0) 11), .int .u64 ((fun _ => 0) 12), .int .u64 ((fun _ => 0) 13), .int .u64 ((fun _ => 0) 14), .int .u64 ((fun _ => 0) 15), .int .u64 ((fun _ => 0) 16), .int .u64 ((fun _ => 0) 17), .int .u64 ((fun _ => 0) 18), .int .u64 ((fun _ => 0) 19)] := hb2
  refine ow_g (g_as rfl) rfl ?_
  refine ow_nil ?_
  refine tw_keep [(1, _), (2, _), (4, _)] ⟨rfl, rfl, rfl, trivial⟩ ?_
  refine tw_seq ?_
  refine tw_region ?_
  refine ow_g (g_mv rfl) rfl ?_
  refine ow_g (g_len Try.underlying22 rfl (by first | assumption | exact Own.rd (by assumption) | exact Rd.keep0 (by assumption) hB | exact Own.rd (Own.keep0 (by assumption) hB))) rfl ?_
  refine ow_g (g_eq rfl rfl) rfl ?_
  refine ow_g (g_mv rfl) rfl ?_
  refine ow_grp 16 true rfl (fun c1 hgc1 => ?_)
  refine ow_gg [(1, _)] (grd1 rfl rfl rfl hgc1) ⟨und0 rfl, trivial⟩ (fun hw1 => g_mv rfl) rfl ?_
  refine ow_gg [(17, _)] (grd1 rfl rfl rfl hgc1) ⟨und1 rfl, trivial⟩ (fun hw2 => g_ix Try.underlying22 ty5 rfl (by first | assumption | exact Own.rd (by assumption) | exact Rd.keep0 (by assumption) hB | exact Own.rd (Own.keep0 (by assumption) hB)) rfl (by omega)) rfl ?_
  refine ow_gg [(18, _)] (grd1 rfl rfl rfl hgc1) ⟨und1 rfl, trivial⟩ (fun hw3 => g_ldB sc5 rfl (by first | assumption | exact Own.rd (by assumption)) (by decide)) rfl ?_
  refine ow_gg [(19, _)] (grd1 rfl rfl rfl hgc1) ⟨und1 rfl, trivial⟩ (fun hw4 => g_eq rfl rfl) rfl ?_
  refine ow_g (g_pand rfl rfl hgc1) rfl ?_
  refine ow_g (g_mv rfl) rfl ?_
  refine ow_grp 22 true rfl (fun c2 hgc2 => ?_)
  refine ow_gg [(1, _)] (grd1 rfl rfl rfl hgc2) ⟨und0 rfl, trivial⟩ (fun hw5 => g_mv rfl) rfl ?_
  refine ow_gg [(23, _)] (grd1 rfl rfl rfl hgc2) ⟨und1 rfl, trivial⟩ (fun hw6 => g_ix Try.underlying22 ty5 rfl (by first | assumption | exact Own.rd (by assumption) | exact Rd.keep0 (by assumption) hB | exact Own.rd (Own.keep0 (by assumption) hB)) rfl (by omega)) rfl ?_
  refine ow_gg [(24, _)] (grd1 rfl rfl rfl hgc2) ⟨und1 rfl, trivial⟩ (fun hw7 => g_ldB sc5 rfl (by first | assumption | exact Own.rd (by assumption)) (by decide)) rfl ?_
  refine ow_gg [(25, _)] (grd1 rfl rfl rfl hgc2) ⟨und1 rfl, trivial⟩ (fun hw8 => g_eq rfl rfl) rfl ?_
  refine ow_g (g_pand rfl rfl hgc2) rfl ?_
  refine ow_g (g_mv rfl) rfl ?_
  refine ow_grp 28 true rfl (fun c3 hgc3 => ?_)
  refine ow_gg [(2, _)] (grd1 rfl rfl rfl hgc3) ⟨und0 rfl, trivial⟩ (fun hw9 => g_mv rfl) rfl ?_
  refine ow_gg [(29, _)] (grd1 rfl rfl rfl hgc3) ⟨und1 rfl, trivial⟩ (fun hw10 => g_len Try.underlying22 rfl (by first | assumption | exact Own.rd (by assumption) | exact Rd.keep0 (by assumption) hB | exact Own.rd (Own.keep0 (by assumption) hB))) rfl ?_
  refine ow_gg [(30, _)] (grd1 rfl rfl rfl hgc3) ⟨und1 rfl, trivial⟩ (fun hw11 => g_eq rfl rfl) rfl ?_
  refine ow_g (g_pand rfl rfl hgc3) rfl ?_
  refine ow_g (g_mv rfl) rfl ?_
  refine ow_grp 33 true rfl (fun c4 hgc4 => ?_)
  refine ow_gg [(2, _)] (grd1 rfl rfl rfl hgc4) ⟨und0 rfl, trivial⟩ (fun hw12 => g_mv rfl) rfl ?_
  refine ow_gg [(34, _)] (grd1 rfl rfl rfl hgc4) ⟨und1 rfl, trivial⟩ (fun hw13 => g_ix Try.underlying22 ty5 rfl (by first | assumption | exact Own.rd (by assumption) | exact Rd.keep0 (by assumption) hB | exact Own.rd (Own.keep0 (by assumption) hB)) rfl (by omega)) rfl ?_
  refine ow_gg [(35, _)] (grd1 rfl rfl rfl hgc4) ⟨und1 rfl, trivial⟩ (fun hw14 => g_ldB sc5 rfl (by first | assumption | exact Own.rd (by assumption)) (by decide)) rfl ?_
  refine ow_gg [(36, _)] (grd1 rfl rfl rfl hgc4) ⟨und1 rfl, trivial⟩ (fun hw15 => g_eq rfl rfl) rfl ?_
  refine ow_g (g_pand rfl rfl hgc4) rfl ?_
  refine ow_g (g_mv rfl) rfl ?_
  refine ow_grp 39 true rfl (fun c5 hgc5 => ?_)
  refine ow_gg [(4, _)] (grd1 rfl rfl rfl hgc5) ⟨und0 rfl, trivial⟩ (fun hw16 => g_mv rfl) rfl ?_
  refine ow_gds [(40, _)] (grd1 rfl rfl rfl hgc5) ⟨und1 rfl, trivial⟩ (fun hw17 => d_call (vs := [_]) rfl (num_any _ _)) rfl ?_
  refine ow_gg [(41, _)] (grd1 rfl rfl rfl hgc5) ⟨und1 rfl, trivial⟩ (fun hw18 => g_eq rfl rfl) rfl ?_
  refine ow_g (g_pand rfl rfl hgc5) rfl ?_
  refine ow_g (g_as rfl) rfl ?_
  refine ow_nil ?_
  refine tw_keep [(0, _)] ⟨rfl, trivial⟩ ?_
  refine tw_ret1 hfin Try.results13 rfl ?_
  exact ⟨by first | rfl | decide, hB⟩

end Go.Proofs.Ytkngeapegpehpaa.W
