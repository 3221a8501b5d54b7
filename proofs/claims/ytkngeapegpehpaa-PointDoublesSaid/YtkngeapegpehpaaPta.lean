import Derived.Test.YtkngeapegpehpaaFrt
namespace Go.Proofs.Ytkngeapegpehpaa.W
open Go Go.Eng Go.Byt
set_option linter.unusedVariables false
set_option linter.unusedSimpArgs false
open Go.Fld Go.Ed
def PtEl (p : Nat → Int) (X Y Z T : Fp) : Prop := El p X ∧ El (vecN [(p 5), (p 6), (p 7), (p 8), (p 9)]) Y ∧ El (vecN [(p 10), (p 11), (p 12), (p 13), (p 14)]) Z ∧ El (vecN [(p 15), (p 16), (p 17), (p 18), (p 19)]) T
set_option maxRecDepth 100000 in
set_option maxHeartbeats 1000000 in
theorem affine_any (f g : Nat → Int) (a b : Fp) (hf : El f a) (hg : El g b) (w : World) : Rets Try.prog 43 [.agg (iv .u64 5 f).toArray, .agg (iv .u64 5 g).toArray] w (fun v w' => ∃ p, v = .agg (iv .u64 20 p).toArray ∧ PtEl p a b (fp 1) (a * b) ∧ Keep [] w w') := by
  have hB : Keep [] w w := Keep.refl _ _
  refine rets_of_tw Try.func43 rfl (by decide) Try.ntmps43 rfl (fun fin _ hfin => ?_)
  refine tw_seq ?_
  refine tw_region ?_
  refine ow_d (d_box (cs := [.int .u64 (f 0), .int .u64 (f 1), .int .u64 (f 2), .int .u64 (f 3), .int .u64 (f 4)]) rfl rfl) rfl ?_
  rintro _ w1 ⟨b1, rfl, eb1, hb1, k1, z1⟩
  have ge_b1 : w.heap.size ≤ b1 := by have := hB.size; omega
  replace hB := hB.trans k1
  clear eb1 z1
  refine ow_d (d_box (cs := [.int .u64 (g 0), .int .u64 (g 1), .int .u64 (g 2), .int .u64 (g 3), .int .u64 (g 4)]) rfl rfl) rfl ?_
  rintro _ w2 ⟨b2, rfl, eb2, hb2, k2, z2⟩
  have ge_b2 : w.heap.size ≤ b2 := by have := hB.size; omega
  have ne_b1_b2 : b1 ≠ b2 := by have := hb1.lt; omega
  replace hb1 := hb1.keep0 k2
  replace hB := hB.trans k2
  clear eb2 z2
  refine ow_d (d_alloc ty30) rfl ?_
  rintro _ w3 ⟨b3, rfl, eb3, hb3, k3, z3⟩
  have ge_b3 : w.heap.size ≤ b3 := by have := hB.size; omega
  have ne_b1_b3 : b1 ≠ b3 := by have := hb1.lt; omega
  have ne_b2_b3 : b2 ≠ b3 := by have := hb2.lt; omega
  replace hb1 := hb1.keep0 k3
  replace hb2 := hb2.keep0 k3
  replace hB := hB.trans k3
  clear eb3 z3
  refine ow_nil ?_
  refine tw_keep [(2, _), (3, _), (4, _)] ⟨rfl, rfl, rfl, trivial⟩ ?_
  refine tw_seq ?_
  refine tw_plan 7 [0, 1, 3, 4, 2, 5, 6] [2, 5] [] mixed [(2, _), (3, _), (4, _)] ⟨rfl, rfl, rfl, trivial⟩ (by decide +kernel) rfl (fun w4 k4 => ?_)
  replace hb1 := hb1.keep0 k4
  replace hb2 := hb2.keep0 k4
  replace hb3 := hb3.keep0 k4
  replace hB := hB.trans k4
  refine pw_g [(2, _)] rfl rfl ⟨rfl, trivial⟩ rfl (fun W' kk => g_ldab (cs' := [_, _, _, _, _]) ag28 ty28 rfl (Bk.keep0 hb1 kk) rfl rfl) ?_
  refine pw_g [(3, _)] rfl rfl ⟨rfl, trivial⟩ rfl (fun W' kk => g_ldab (cs' := [_, _, _, _, _]) ag28 ty28 rfl (Bk.keep0 hb2 kk) rfl rfl) ?_
  refine pw_g [(2, _)] rfl rfl ⟨rfl, trivial⟩ rfl (fun W' kk => g_ldab (cs' := [_, _, _, _, _]) ag28 ty28 rfl (Bk.keep0 hb1 kk) rfl rfl) ?_
  refine pw_g [(3, _)] rfl rfl ⟨rfl, trivial⟩ rfl (fun W' kk => g_ldab (cs' := [_, _, _, _, _]) ag28 ty28 rfl (Bk.keep0 hb2 kk) rfl rfl) ?_
  refine pw_d [] rfl rfl trivial rfl (d_call (vs := [_]) rfl (Small_any _ (by decide) _)) ?_
  rintro _ w5 ⟨hh1, rfl, E1, k5⟩
  refine ⟨k5, ?_⟩
  replace hb1 := hb1.keep0 k5
  replace hb2 := hb2.keep0 k5
  replace hb3 := hb3.keep0 k5
  replace hB := hB.trans k5
  refine pw_d [(8, _), (9, _)] rfl rfl ⟨rfl, rfl, trivial⟩ rfl (d_call (vs := [_, _]) rfl (ntimes_any _ _ _ _ hf hg _)) ?_
  rintro _ w6 ⟨hh2, rfl, E2, k6⟩
  refine ⟨k6, ?_⟩
  replace hb1 := hb1.keep0 k6
  replace hb2 := hb2.keep0 k6
  replace hb3 := hb3.keep0 k6
  replace hB := hB.trans k6
  refine pw_g [(5, _), (6, _), (7, _), (10, _)] rfl rfl ⟨rfl, rfl, rfl, rfl, trivial⟩ rfl (fun W' kk => g_bld (idx := [0, 1, 2, 3]) (xs := [.tmp 5, .tmp 6, .tmp 7, .tmp 10]) (vs := [_, _, _, _]) (css := [[_, _, _, _, _], [_, _, _, _, _], [_, _, _, _, _], [_, _, _, _, _]]) (out := [_, _, _, _, _, _, _, _, _, _, _, _, _, _, _, _, _, _, _, _]) pl30 ty30 rfl rfl ⟨rfl, rfl, rfl, rfl, trivial⟩ rfl rfl) ?_
  refine pw_nil ?_
  refine ow_d0 (d_sta ty30 rfl rfl rfl (by simp only [List.forall_mem_cons]; refine ⟨rfl, rfl, rfl, rfl, rfl, rfl, rfl, rfl, rfl, rfl, rfl, rfl, rfl, rfl, rfl, rfl, rfl, rfl, rfl, rfl, fun v hv => by cases hv⟩) hb3 rfl) ?_
  rintro _ w7 ⟨hb4, k7, z4⟩
  replace hb1 := hb1.keep k7 (fun hm => absurd (List.mem_singleton.1 hm) ne_b1_b3)
  replace hb2 := hb2.keep k7 (fun hm => absurd (List.mem_singleton.1 hm) ne_b2_b3)
  replace hB := hB.new k7 (fun x hx => .inl ((List.mem_singleton.1 hx) ▸ ge_b3))
  clear z4
  replace hb4 : Bk w7 b3 _ [.int .u64 (f 0), .int .u64 (f 1), .int .u64 (f 2), .int .u64 (f 3), .int .u64 (f 4), .int .u64 (g 0), .int .u64 (g 1), .int .u64 (g 2), .int .u64 (g 3), .int .u64 (g 4), .int .u64 (hh1 0), .int .u64 (hh1 1), .int .u64 (hh1 2), .int .u64 (hh1 3), .int .u64 (hh1 4), .int .u64 (hh2 0), .int .u64 (hh2 1), .int .u64 (hh2 2), .int .u64 (hh2 3), .int .u64 (hh2 4)] := hb4
  refine ow_nil ?_
  refine tw_keep [(4, _)] ⟨rfl, trivial⟩ ?_
  refine tw_retc hfin Try.results43 rfl (run_loadAgg ag30 ty30 (by assumption) rfl)  ?_
  exact ⟨(vecN [(f 0), (f 1), (f 2), (f 3), (f 4), (g 0), (g 1), (g 2), (g 3), (g 4), (hh1 0), (hh1 1), (hh1 2), (hh1 3), (hh1 4), (hh2 0), (hh2 1), (hh2 2), (hh2 3), (hh2 4)]), rfl, ⟨hf, hg, E1, E2⟩, hB⟩

set_option maxRecDepth 100000 in
set_option maxHeartbeats 1000000 in
theorem pplus_any (p q f : Nat → Int) (X1 Y1 Z1 T1 X2 Y2 Z2 T2 a : Fp) (hp : PtEl p X1 Y1 Z1 T1) (hq : PtEl q X2 Y2 Z2 T2) (hf : El f a) (w : World) : Rets Try.prog 58 [.agg (iv .u64 20 p).toArray, .agg (iv .u64 20 q).toArray, .agg (iv .u64 5 f).toArray] w (fun v w' => ∃ r, v = .agg (iv .u64 20 r).toArray ∧ PtEl r (((X1 + Y1) * (X2 + Y2) - X1 * X2 - Y1 * Y2) * (Z1 * Z2 - T1 * T2 * a)) ((Z1 * Z2 + T1 * T2 * a) * (Y1 * Y2 + X1 * X2)) ((Z1 * Z2 - T1 * T2 * a) * (Z1 * Z2 + T1 * T2 * a)) (((X1 + Y1) * (X2 + Y2) - X1 * X2 - Y1 * Y2) * (Y1 * Y2 + X1 * X2)) ∧ Keep [] w w') := by
  have hB : Keep [] w w := Keep.refl _ _
  refine rets_of_tw Try.func58 rfl (by decide) Try.ntmps58 rfl (fun fin _ hfin => ?_)
  refine tw_seq ?_
  refine tw_region ?_
  refine ow_d (d_box (cs := [.int .u64 (p 0), .int .u64 (p 1), .int .u64 (p 2), .int .u64 (p 3), .int .u64 (p 4), .int .u64 (p 5), .int .u64 (p 6), .int .u64 (p 7), .int .u64 (p 8), .int .u64 (p 9), .int .u64 (p 10), .int .u64 (p 11), .int .u64 (p 12), .int .u64 (p 13), .int .u64 (p 14), .int .u64 (p 15), .int .u64 (p 16), .int .u64 (p 17), .int .u64 (p 18), .int .u64 (p 19)]) rfl rfl) rfl ?_
  rintro _ w1 ⟨b1, rfl, eb1, hb1, k1, z1⟩
  have ge_b1 : w.heap.size ≤ b1 := by have := hB.size; omega
  replace hB := hB.trans k1
  clear eb1 z1
  refine ow_d (d_box (cs := [.int .u64 (q 0), .int .u64 (q 1), .int .u64 (q 2), .int .u64 (q 3), .int .u64 (q 4), .int .u64 (q 5), .int .u64 (q 6), .int .u64 (q 7), .int .u64 (q 8), .int .u64 (q 9), .int .u64 (q 10), .int .u64 (q 11), .int .u64 (q 12), .int .u64 (q 13), .int .u64 (q 14), .int .u64 (q 15), .int .u64 (q 16), .int .u64 (q 17), .int .u64 (q 18), .int .u64 (q 19)]) rfl rfl) rfl ?_
  rintro _ w2 ⟨b2, rfl, eb2, hb2, k2, z2⟩
  have ge_b2 : w.heap.size ≤ b2 := by have := hB.size; omega
  have ne_b1_b2 : b1 ≠ b2 := by have := hb1.lt; omega
  replace hb1 := hb1.keep0 k2
  replace hB := hB.trans k2
  clear eb2 z2
  refine ow_d (d_box (cs := [.int .u64 (f 0), .int .u64 (f 1), .int .u64 (f 2), .int .u64 (f 3), .int .u64 (f 4)]) rfl rfl) rfl ?_
  rintro _ w3 ⟨b3, rfl, eb3, hb3, k3, z3⟩
  have ge_b3 : w.heap.size ≤ b3 := by have := hB.size; omega
  have ne_b1_b3 : b1 ≠ b3 := by have := hb1.lt; omega
  have ne_b2_b3 : b2 ≠ b3 := by have := hb2.lt; omega
  replace hb1 := hb1.keep0 k3
  replace hb2 := hb2.keep0 k3
  replace hB := hB.trans k3
  clear eb3 z3
  refine ow_d (d_alloc ty30) rfl ?_
  rintro _ w4 ⟨b4, rfl, eb4, hb4, k4, z4⟩
  have ge_b4 : w.heap.size ≤ b4 := by have := hB.size; omega
  have ne_b1_b4 : b1 ≠ b4 := by have := hb1.lt; omega
  have ne_b2_b4 : b2 ≠ b4 := by have := hb2.lt; omega
  have ne_b3_b4 : b3 ≠ b4 := by have := hb3.lt; omega
  replace hb1 := hb1.keep0 k4
  replace hb2 := hb2.keep0 k4
  replace hb3 := hb3.keep0 k4
  replace hB := hB.trans k4
  clear eb4 z4
  refine ow_nil ?_
  refine tw_keep [(3, _), (4, _), (5, _), (6, _)] ⟨rfl, rfl, rfl, rfl, trivial⟩ ?_
  refine tw_seq ?_
  have gs1 := hB.size
  have lt1 := hb1.lt
  have lt2 := hb2.lt
  have lt3 := hb3.lt
  have lt4 := hb4.lt
  refine tw_planA 12 [0, 1, 2, 3, 5, 6, 7, 8, 4, 9] [4, 9] [] [(10, 28, [.int .u64 0, .int .u64 0, .int .u64 0, .int .u64 0, .int .u64 0]), (11, 28, [.int .u64 0, .int .u64 0, .int .u64 0, .int .u64 0, .int .u64 0])] mixed [(3, _), (4, _), (5, _), (6, _)] ⟨rfl, rfl, rfl, rfl, trivial⟩ (by decide +kernel) (by decide) (by decide) ?_ (fun x hx => by cases hx) rfl (fun w5 k5 => ?_)
  · simp only [List.forall_mem_cons]; exact ⟨⟨_, _, _, _, _, _, rfl, ty28⟩, ⟨_, _, _, _, _, _, rfl, ty28⟩, fun q hq => by cases hq⟩
  replace hb1 := hb1.keep0 k5
  replace hb2 := hb2.keep0 k5
  replace hb3 := hb3.keep0 k5
  replace hb4 := hb4.keep0 k5
  replace hB := hB.trans k5
  refine pa_g [(3, _)] rfl rfl ⟨rfl, trivial⟩ rfl (fun W' kk => g_fa Try.underlying30 rfl ty28 (by decide) rfl) ?_
  refine pa_g [(15, _)] rfl rfl ⟨rfl, trivial⟩ rfl (fun W' kk => g_ldab (cs' := [_, _, _, _, _]) ag28 ty28 rfl (Bk.keep0 hb1 kk) rfl rfl) ?_
  refine pa_g [(4, _)] rfl rfl ⟨rfl, trivial⟩ rfl (fun W' kk => g_fa Try.underlying30 rfl ty28 (by decide) rfl) ?_
  refine pa_g [(17, _)] rfl rfl ⟨rfl, trivial⟩ rfl (fun W' kk => g_ldab (cs' := [_, _, _, _, _]) ag28 ty28 rfl (Bk.keep0 hb2 kk) rfl rfl) ?_
  refine pa_g [(3, _)] rfl rfl ⟨rfl, trivial⟩ rfl (fun W' kk => g_fa Try.underlying30 rfl ty28 (by decide) rfl) ?_
  refine pa_g [(20, _)] rfl rfl ⟨rfl, trivial⟩ rfl (fun W' kk => g_ldab (cs' := [_, _, _, _, _]) ag28 ty28 rfl (Bk.keep0 hb1 kk) rfl rfl) ?_
  refine pa_g [(4, _)] rfl rfl ⟨rfl, trivial⟩ rfl (fun W' kk => g_fa Try.underlying30 rfl ty28 (by decide) rfl) ?_
  refine pa_g [(22, _)] rfl rfl ⟨rfl, trivial⟩ rfl (fun W' kk => g_ldab (cs' := [_, _, _, _, _]) ag28 ty28 rfl (Bk.keep0 hb2 kk) rfl rfl) ?_
  refine pa_d [(16, _), (18, _)] rfl rfl ⟨rfl, rfl, trivial⟩ rfl (fun w7 k7 => ?_)
  replace hb1 := hb1.keep0 k7
  replace hb2 := hb2.keep0 k7
  replace hb3 := hb3.keep0 k7
  replace hb4 := hb4.keep0 k7
  replace hB := hB.trans k7
  refine (d_call (vs := [_, _]) rfl (ntimes_any _ _ _ _ hp.1 hq.1 _)).mono ?_
  rintro _ w6 ⟨hh1, rfl, E1, k6⟩
  refine ⟨k6, (fun x hx => by have hx : x ∈ ([] : List Nat) := hx; cases hx), ?_⟩
  replace hb1 := hb1.keep0 k6
  replace hb2 := hb2.keep0 k6
  replace hb3 := hb3.keep0 k6
  replace hb4 := hb4.keep0 k6
  replace hB := hB.trans k6
  refine pa_d [(21, _), (23, _)] rfl rfl ⟨rfl, rfl, trivial⟩ rfl (fun w9 k9 => ?_)
  replace hb1 := hb1.keep0 k9
  replace hb2 := hb2.keep0 k9
  replace hb3 := hb3.keep0 k9
  replace hb4 := hb4.keep0 k9
  replace hB := hB.trans k9
  refine (d_call (vs := [_, _]) rfl (ntimes_any _ _ _ _ hp.2.1 hq.2.1 _)).mono ?_
  rintro _ w8 ⟨hh2, rfl, E2, k8⟩
  refine ⟨k8, (fun x hx => by have hx : x ∈ ([] : List Nat) := hx; cases hx), ?_⟩
  replace hb1 := hb1.keep0 k8
  replace hb2 := hb2.keep0 k8
  replace hb3 := hb3.keep0 k8
  replace hb4 := hb4.keep0 k8
  replace hB := hB.trans k8
  refine pa_nil (fun w10 k10 => ?_)
  replace hb1 := hb1.keep0 k10
  replace hb2 := hb2.keep0 k10
  replace hb3 := hb3.keep0 k10
  replace hb4 := hb4.keep0 k10
  replace hB := hB.trans k10
  intro b5 eb5 lb1 hb5 ds1 sp1
  have ge_b5 : w.heap.size ≤ b5 := Nat.le_trans gs1 eb5
  have ne_b1_b5 : b1 ≠ b5 := Nat.ne_of_lt (Nat.lt_of_lt_of_le lt1 eb5)
  have ne_b2_b5 : b2 ≠ b5 := Nat.ne_of_lt (Nat.lt_of_lt_of_le lt2 eb5)
  have ne_b3_b5 : b3 ≠ b5 := Nat.ne_of_lt (Nat.lt_of_lt_of_le lt3 eb5)
  have ne_b4_b5 : b4 ≠ b5 := Nat.ne_of_lt (Nat.lt_of_lt_of_le lt4 eb5)
  intro b6 eb6 lb2 hb6 ds2 sp2
  have ge_b6 : w.heap.size ≤ b6 := Nat.le_trans gs1 eb6
  have ne_b1_b6 : b1 ≠ b6 := Nat.ne_of_lt (Nat.lt_of_lt_of_le lt1 eb6)
  have ne_b2_b6 : b2 ≠ b6 := Nat.ne_of_lt (Nat.lt_of_lt_of_le lt2 eb6)
  have ne_b3_b6 : b3 ≠ b6 := Nat.ne_of_lt (Nat.lt_of_lt_of_le lt3 eb6)
  have ne_b4_b6 : b4 ≠ b6 := Nat.ne_of_lt (Nat.lt_of_lt_of_le lt4 eb6)
  have ne1 := ds2 b5 (by simp)
  refine fina_nil ?_
  refine ow_d0 (d_sta ty28 rfl rfl rfl ivF_one hb5 rfl) ?_
  rintro _ w11 ⟨hb7, k11, z5⟩
  replace hb1 := hb1.keep k11 (fun hm => absurd (List.mem_singleton.1 hm) ne_b1_b5)
  replace hb2 := hb2.keep k11 (fun hm => absurd (List.mem_singleton.1 hm) ne_b2_b5)
  replace hb3 := hb3.keep k11 (fun hm => absurd (List.mem_singleton.1 hm) ne_b3_b5)
  replace hb4 := hb4.keep k11 (fun hm => absurd (List.mem_singleton.1 hm) ne_b4_b5)
  replace hb6 := hb6.keep k11 (fun hm => absurd (List.mem_singleton.1 hm) (Ne.symm ne1))
  replace hB := hB.new k11 (fun x hx => .inl ((List.mem_singleton.1 hx) ▸ ge_b5))
  clear z5
  replace hb7 : Bk w11 b5 _ [.int .u64 (hh1 0), .int .u64 (hh1 1), .int .u64 (hh1 2), .int .u64 (hh1 3), .int .u64 (hh1 4)] := hb7
  refine ow_d0 (d_sta ty28 rfl rfl rfl ivF_one hb6 rfl) ?_
  rintro _ w12 ⟨hb8, k12, z6⟩
  replace hb1 := hb1.keep k12 (fun hm => absurd (List.mem_singleton.1 hm) ne_b1_b6)
  replace hb2 := hb2.keep k12 (fun hm => absurd (List.mem_singleton.1 hm) ne_b2_b6)
  replace hb3 := hb3.keep k12 (fun hm => absurd (List.mem_singleton.1 hm) ne_b3_b6)
  replace hb4 := hb4.keep k12 (fun hm => absurd (List.mem_singleton.1 hm) ne_b4_b6)
  replace hb7 := hb7.keep k12 (fun hm => absurd (List.mem_singleton.1 hm) ne1)
  replace hB := hB.new k12 (fun x hx => .inl ((List.mem_singleton.1 hx) ▸ ge_b6))
  clear z6
  replace hb8 : Bk w12 b6 _ [.int .u64 (hh2 0), .int .u64 (hh2 1), .int .u64 (hh2 2), .int .u64 (hh2 3), .int .u64 (hh2 4)] := hb8
  refine ow_nil ?_
  refine tw_keep [(3, _), (4, _), (5, _), (6, _), (7, _), (8, _)] ⟨rfl, rfl, rfl, rfl, rfl, rfl, trivial⟩ ?_
  refine tw_seq ?_
  have gs2 := hB.size
  have lt5 := hb1.lt
  have lt6 := hb2.lt
  have lt7 := hb3.lt
  have lt8 := hb4.lt
  have lt9 := hb7.lt
  have lt10 := hb8.lt
  refine tw_planA 14 [0, 1, 2, 3, 5, 7, 8, 9, 10, 4, 6, 11] [4, 6, 11] [] [(12, 28, [.int .u64 0, .int .u64 0, .int .u64 0, .int .u64 0, .int .u64 0]), (13, 28, [.int .u64 0, .int .u64 0, .int .u64 0, .int .u64 0, .int .u64 0])] mixed [(3, _), (4, _), (5, _), (6, _), (7, _), (8, _)] ⟨rfl, rfl, rfl, rfl, rfl, rfl, trivial⟩ (by decide +kernel) (by decide) (by decide) ?_ (fun x hx => by cases hx) rfl (fun w13 k13 => ?_)
  · simp only [List.forall_mem_cons]; exact ⟨⟨_, _, _, _, _, _, rfl, ty28⟩, ⟨_, _, _, _, _, _, rfl, ty28⟩, fun q hq => by cases hq⟩
  replace hb1 := hb1.keep0 k13
  replace hb2 := hb2.keep0 k13
  replace hb3 := hb3.keep0 k13
  replace hb4 := hb4.keep0 k13
  replace hb7 := hb7.keep0 k13
  replace hb8 := hb8.keep0 k13
  replace hB := hB.trans k13
  refine pa_g [(3, _)] rfl rfl ⟨rfl, trivial⟩ rfl (fun W' kk => g_fa Try.underlying30 rfl ty28 (by decide) rfl) ?_
  refine pa_g [(25, _)] rfl rfl ⟨rfl, trivial⟩ rfl (fun W' kk => g_ldab (cs' := [_, _, _, _, _]) ag28 ty28 rfl (Bk.keep0 hb1 kk) rfl rfl) ?_
  refine pa_g [(4, _)] rfl rfl ⟨rfl, trivial⟩ rfl (fun W' kk => g_fa Try.underlying30 rfl ty28 (by decide) rfl) ?_
  refine pa_g [(27, _)] rfl rfl ⟨rfl, trivial⟩ rfl (fun W' kk => g_ldab (cs' := [_, _, _, _, _]) ag28 ty28 rfl (Bk.keep0 hb2 kk) rfl rfl) ?_
  refine pa_g [(5, _)] rfl rfl ⟨rfl, trivial⟩ rfl (fun W' kk => g_ldab (cs' := [_, _, _, _, _]) ag28 ty28 rfl (Bk.keep0 hb3 kk) rfl rfl) ?_
  refine pa_g [(3, _)] rfl rfl ⟨rfl, trivial⟩ rfl (fun W' kk => g_fa Try.underlying30 rfl ty28 (by decide) rfl) ?_
  refine pa_g [(32, _)] rfl rfl ⟨rfl, trivial⟩ rfl (fun W' kk => g_ldab (cs' := [_, _, _, _, _]) ag28 ty28 rfl (Bk.keep0 hb1 kk) rfl rfl) ?_
  refine pa_g [(4, _)] rfl rfl ⟨rfl, trivial⟩ rfl (fun W' kk => g_fa Try.underlying30 rfl ty28 (by decide) rfl) ?_
  refine pa_g [(34, _)] rfl rfl ⟨rfl, trivial⟩ rfl (fun W' kk => g_ldab (cs' := [_, _, _, _, _]) ag28 ty28 rfl (Bk.keep0 hb2 kk) rfl rfl) ?_
  refine pa_d [(26, _), (28, _)] rfl rfl ⟨rfl, rfl, trivial⟩ rfl (fun w15 k15 => ?_)
  replace hb1 := hb1.keep0 k15
  replace hb2 := hb2.keep0 k15
  replace hb3 := hb3.keep0 k15
  replace hb4 := hb4.keep0 k15
  replace hb7 := hb7.keep0 k15
  replace hb8 := hb8.keep0 k15
  replace hB := hB.trans k15
  refine (d_call (vs := [_, _]) rfl (ntimes_any _ _ _ _ hp.2.2.2 hq.2.2.2 _)).mono ?_
  rintro _ w14 ⟨hh3, rfl, E3, k14⟩
  refine ⟨k14, (fun x hx => by have hx : x ∈ ([] : List Nat) := hx; cases hx), ?_⟩
  replace hb1 := hb1.keep0 k14
  replace hb2 := hb2.keep0 k14
  replace hb3 := hb3.keep0 k14
  replace hb4 := hb4.keep0 k14
  replace hb7 := hb7.keep0 k14
  replace hb8 := hb8.keep0 k14
  replace hB := hB.trans k14
  refine pa_d [(29, _), (30, _)] rfl rfl ⟨rfl, rfl, trivial⟩ rfl (fun w17 k17 => ?_)
  replace hb1 := hb1.keep0 k17
  replace hb2 := hb2.keep0 k17
  replace hb3 := hb3.keep0 k17
  replace hb4 := hb4.keep0 k17
  replace hb7 := hb7.keep0 k17
  replace hb8 := hb8.keep0 k17
  replace hB := hB.trans k17
  refine (d_call (vs := [_, _]) rfl (ntimes_any _ _ _ _ E3 hf _)).mono ?_
  rintro _ w16 ⟨hh4, rfl, E4, k16⟩
  refine ⟨k16, (fun x hx => by have hx : x ∈ ([] : List Nat) := hx; cases hx), ?_⟩
  replace hb1 := hb1.keep0 k16
  replace hb2 := hb2.keep0 k16
  replace hb3 := hb3.keep0 k16
  replace hb4 := hb4.keep0 k16
  replace hb7 := hb7.keep0 k16
  replace hb8 := hb8.keep0 k16
  replace hB := hB.trans k16
  refine pa_d [(33, _), (35, _)] rfl rfl ⟨rfl, rfl, trivial⟩ rfl (fun w19 k19 => ?_)
  replace hb1 := hb1.keep0 k19
  replace hb2 := hb2.keep0 k19
  replace hb3 := hb3.keep0 k19
  replace hb4 := hb4.keep0 k19
  replace hb7 := hb7.keep0 k19
  replace hb8 := hb8.keep0 k19
  replace hB := hB.trans k19
  refine (d_call (vs := [_, _]) rfl (ntimes_any _ _ _ _ hp.2.2.1 hq.2.2.1 _)).mono ?_
  rintro _ w18 ⟨hh5, rfl, E5, k18⟩
  refine ⟨k18, (fun x hx => by have hx : x ∈ ([] : List Nat) := hx; cases hx), ?_⟩
  replace hb1 := hb1.keep0 k18
  replace hb2 := hb2.keep0 k18
  replace hb3 := hb3.keep0 k18
  replace hb4 := hb4.keep0 k18
  replace hb7 := hb7.keep0 k18
  replace hb8 := hb8.keep0 k18
  replace hB := hB.trans k18
  refine pa_nil (fun w20 k20 => ?_)
  replace hb1 := hb1.keep0 k20
  replace hb2 := hb2.keep0 k20
  replace hb3 := hb3.keep0 k20
  replace hb4 := hb4.keep0 k20
  replace hb7 := hb7.keep0 k20
  replace hb8 := hb8.keep0 k20
  replace hB := hB.trans k20
  intro b7 eb7 lb3 hb9 ds3 sp3
  have ge_b7 : w.heap.size ≤ b7 := Nat.le_trans gs2 eb7
  have ne_b1_b7 : b1 ≠ b7 := Nat.ne_of_lt (Nat.lt_of_lt_of_le lt5 eb7)
  have ne_b2_b7 : b2 ≠ b7 := Nat.ne_of_lt (Nat.lt_of_lt_of_le lt6 eb7)
  have ne_b3_b7 : b3 ≠ b7 := Nat.ne_of_lt (Nat.lt_of_lt_of_le lt7 eb7)
  have ne_b4_b7 : b4 ≠ b7 := Nat.ne_of_lt (Nat.lt_of_lt_of_le lt8 eb7)
  have ne_b5_b7 : b5 ≠ b7 := Nat.ne_of_lt (Nat.lt_of_lt_of_le lt9 eb7)
  have ne_b6_b7 : b6 ≠ b7 := Nat.ne_of_lt (Nat.lt_of_lt_of_le lt10 eb7)
  intro b8 eb8 lb4 hb10 ds4 sp4
  have ge_b8 : w.heap.size ≤ b8 := Nat.le_trans gs2 eb8
  have ne_b1_b8 : b1 ≠ b8 := Nat.ne_of_lt (Nat.lt_of_lt_of_le lt5 eb8)
  have ne_b2_b8 : b2 ≠ b8 := Nat.ne_of_lt (Nat.lt_of_lt_of_le lt6 eb8)
  have ne_b3_b8 : b3 ≠ b8 := Nat.ne_of_lt (Nat.lt_of_lt_of_le lt7 eb8)
  have ne_b4_b8 : b4 ≠ b8 := Nat.ne_of_lt (Nat.lt_of_lt_of_le lt8 eb8)
  have ne_b5_b8 : b5 ≠ b8 := Nat.ne_of_lt (Nat.lt_of_lt_of_le lt9 eb8)
  have ne_b6_b8 : b6 ≠ b8 := Nat.ne_of_lt (Nat.lt_of_lt_of_le lt10 eb8)
  have ne2 := ds4 b7 (by simp)
  refine fina_nil ?_
  refine ow_d0 (d_sta ty28 rfl rfl rfl ivF_one hb9 rfl) ?_
  rintro _ w21 ⟨hb11, k21, z7⟩
  replace hb1 := hb1.keep k21 (fun hm => absurd (List.mem_singleton.1 hm) ne_b1_b7)
  replace hb2 := hb2.keep k21 (fun hm => absurd (List.mem_singleton.1 hm) ne_b2_b7)
  replace hb3 := hb3.keep k21 (fun hm => absurd (List.mem_singleton.1 hm) ne_b3_b7)
  replace hb4 := hb4.keep k21 (fun hm => absurd (List.mem_singleton.1 hm) ne_b4_b7)
  replace hb7 := hb7.keep k21 (fun hm => absurd (List.mem_singleton.1 hm) ne_b5_b7)
  replace hb8 := hb8.keep k21 (fun hm => absurd (List.mem_singleton.1 hm) ne_b6_b7)
  replace hb10 := hb10.keep k21 (fun hm => absurd (List.mem_singleton.1 hm) (Ne.symm ne2))
  replace hB := hB.new k21 (fun x hx => .inl ((List.mem_singleton.1 hx) ▸ ge_b7))
  clear z7
  replace hb11 : Bk w21 b7 _ [.int .u64 (hh4 0), .int .u64 (hh4 1), .int .u64 (hh4 2), .int .u64 (hh4 3), .int .u64 (hh4 4)] := hb11
  refine ow_d0 (d_sta ty28 rfl rfl rfl ivF_one hb10 rfl) ?_
  rintro _ w22 ⟨hb12, k22, z8⟩
  replace hb1 := hb1.keep k22 (fun hm => absurd (List.mem_singleton.1 hm) ne_b1_b8)
  replace hb2 := hb2.keep k22 (fun hm => absurd (List.mem_singleton.1 hm) ne_b2_b8)
  replace hb3 := hb3.keep k22 (fun hm => absurd (List.mem_singleton.1 hm) ne_b3_b8)
  replace hb4 := hb4.keep k22 (fun hm => absurd (List.mem_singleton.1 hm) ne_b4_b8)
  replace hb7 := hb7.keep k22 (fun hm => absurd (List.mem_singleton.1 hm) ne_b5_b8)
  replace hb8 := hb8.keep k22 (fun hm => absurd (List.mem_singleton.1 hm) ne_b6_b8)
  replace hb11 := hb11.keep k22 (fun hm => absurd (List.mem_singleton.1 hm) ne2)
  replace hB := hB.new k22 (fun x hx => .inl ((List.mem_singleton.1 hx) ▸ ge_b8))
  clear z8
  replace hb12 : Bk w22 b8 _ [.int .u64 (hh5 0), .int .u64 (hh5 1), .int .u64 (hh5 2), .int .u64 (hh5 3), .int .u64 (hh5 4)] := hb12
  refine ow_nil ?_
  refine tw_keep [(3, _), (4, _), (6, _), (7, _), (8, _), (9, _), (10, _)] ⟨rfl, rfl, rfl, rfl, rfl, rfl, rfl, trivial⟩ ?_
  refine tw_seq ?_
  have gs3 := hB.size
  have lt11 := hb1.lt
  have lt12 := hb2.lt
  have lt13 := hb3.lt
  have lt14 := hb4.lt
  have lt15 := hb7.lt
  have lt16 := hb8.lt
  have lt17 := hb11.lt
  have lt18 := hb12.lt
  refine tw_planA 16 [0, 1, 2, 3, 5, 6, 7, 8, 11, 13, 4, 9, 10, 12, 14] [4, 9, 10, 12, 14] [] [(15, 28, [.int .u64 0, .int .u64 0, .int .u64 0, .int .u64 0, .int .u64 0])] mixed [(3, _), (4, _), (7, _), (8, _), (6, _), (9, _), (10, _)] ⟨rfl, rfl, rfl, rfl, rfl, rfl, rfl, trivial⟩ (by decide +kernel) (by decide) (by decide) ?_ (fun x hx => by cases hx) rfl (fun w23 k23 => ?_)
  · simp only [List.forall_mem_cons]; exact ⟨⟨_, _, _, _, _, _, rfl, ty28⟩, fun q hq => by cases hq⟩
  replace hb1 := hb1.keep0 k23
  replace hb2 := hb2.keep0 k23
  replace hb3 := hb3.keep0 k23
  replace hb4 := hb4.keep0 k23
  replace hb7 := hb7.keep0 k23
  replace hb8 := hb8.keep0 k23
  replace hb11 := hb11.keep0 k23
  replace hb12 := hb12.keep0 k23
  replace hB := hB.trans k23
  refine pa_g [(3, _)] rfl rfl ⟨rfl, trivial⟩ rfl (fun W' kk => g_fa Try.underlying30 rfl ty28 (by decide) rfl) ?_
  refine pa_g [(37, _)] rfl rfl ⟨rfl, trivial⟩ rfl (fun W' kk => g_ldab (cs' := [_, _, _, _, _]) ag28 ty28 rfl (Bk.keep0 hb1 kk) rfl rfl) ?_
  refine pa_g [(3, _)] rfl rfl ⟨rfl, trivial⟩ rfl (fun W' kk => g_fa Try.underlying30 rfl ty28 (by decide) rfl) ?_
  refine pa_g [(39, _)] rfl rfl ⟨rfl, trivial⟩ rfl (fun W' kk => g_ldab (cs' := [_, _, _, _, _]) ag28 ty28 rfl (Bk.keep0 hb1 kk) rfl rfl) ?_
  refine pa_g [(4, _)] rfl rfl ⟨rfl, trivial⟩ rfl (fun W' kk => g_fa Try.underlying30 rfl ty28 (by decide) rfl) ?_
  refine pa_g [(42, _)] rfl rfl ⟨rfl, trivial⟩ rfl (fun W' kk => g_ldab (cs' := [_, _, _, _, _]) ag28 ty28 rfl (Bk.keep0 hb2 kk) rfl rfl) ?_
  refine pa_g [(4, _)] rfl rfl ⟨rfl, trivial⟩ rfl (fun W' kk => g_fa Try.underlying30 rfl ty28 (by decide) rfl) ?_
  refine pa_g [(44, _)] rfl rfl ⟨rfl, trivial⟩ rfl (fun W' kk => g_ldab (cs' := [_, _, _, _, _]) ag28 ty28 rfl (Bk.keep0 hb2 kk) rfl rfl) ?_
  refine pa_g [(7, _)] rfl rfl ⟨rfl, trivial⟩ rfl (fun W' kk => g_ldab (cs' := [_, _, _, _, _]) ag28 ty28 rfl (Bk.keep0 hb7 kk) rfl rfl) ?_
  refine pa_g [(8, _)] rfl rfl ⟨rfl, trivial⟩ rfl (fun W' kk => g_ldab (cs' := [_, _, _, _, _]) ag28 ty28 rfl (Bk.keep0 hb8 kk) rfl rfl) ?_
  refine pa_d [(38, _), (40, _)] rfl rfl ⟨rfl, rfl, trivial⟩ rfl (fun w25 k25 => ?_)
  replace hb1 := hb1.keep0 k25
  replace hb2 := hb2.keep0 k25
  replace hb3 := hb3.keep0 k25
  replace hb4 := hb4.keep0 k25
  replace hb7 := hb7.keep0 k25
  replace hb8 := hb8.keep0 k25
  replace hb11 := hb11.keep0 k25
  replace hb12 := hb12.keep0 k25
  replace hB := hB.trans k25
  refine (d_call (vs := [_, _]) rfl (nplus_any _ _ _ _ hp.1 hp.2.1 _)).mono ?_
  rintro _ w24 ⟨hh6, rfl, E6, k24⟩
  refine ⟨k24, (fun x hx => by have hx : x ∈ ([] : List Nat) := hx; cases hx), ?_⟩
  replace hb1 := hb1.keep0 k24
  replace hb2 := hb2.keep0 k24
  replace hb3 := hb3.keep0 k24
  replace hb4 := hb4.keep0 k24
  replace hb7 := hb7.keep0 k24
  replace hb8 := hb8.keep0 k24
  replace hb11 := hb11.keep0 k24
  replace hb12 := hb12.keep0 k24
  replace hB := hB.trans k24
  refine pa_d [(43, _), (45, _)] rfl rfl ⟨rfl, rfl, trivial⟩ rfl (fun w27 k27 => ?_)
  replace hb1 := hb1.keep0 k27
  replace hb2 := hb2.keep0 k27
  replace hb3 := hb3.keep0 k27
  replace hb4 := hb4.keep0 k27
  replace hb7 := hb7.keep0 k27
  replace hb8 := hb8.keep0 k27
  replace hb11 := hb11.keep0 k27
  replace hb12 := hb12.keep0 k27
  replace hB := hB.trans k27
  refine (d_call (vs := [_, _]) rfl (nplus_any _ _ _ _ hq.1 hq.2.1 _)).mono ?_
  rintro _ w26 ⟨hh7, rfl, E7, k26⟩
  refine ⟨k26, (fun x hx => by have hx : x ∈ ([] : List Nat) := hx; cases hx), ?_⟩
  replace hb1 := hb1.keep0 k26
  replace hb2 := hb2.keep0 k26
  replace hb3 := hb3.keep0 k26
  replace hb4 := hb4.keep0 k26
  replace hb7 := hb7.keep0 k26
  replace hb8 := hb8.keep0 k26
  replace hb11 := hb11.keep0 k26
  replace hb12 := hb12.keep0 k26
  replace hB := hB.trans k26
  refine pa_d [(41, _), (46, _)] rfl rfl ⟨rfl, rfl, trivial⟩ rfl (fun w29 k29 => ?_)
  replace hb1 := hb1.keep0 k29
  replace hb2 := hb2.keep0 k29
  replace hb3 := hb3.keep0 k29
  replace hb4 := hb4.keep0 k29
  replace hb7 := hb7.keep0 k29
  replace hb8 := hb8.keep0 k29
  replace hb11 := hb11.keep0 k29
  replace hb12 := hb12.keep0 k29
  replace hB := hB.trans k29
  refine (d_call (vs := [_, _]) rfl (ntimes_any _ _ _ _ E6 E7 _)).mono ?_
  rintro _ w28 ⟨hh8, rfl, E8, k28⟩
  refine ⟨k28, (fun x hx => by have hx : x ∈ ([] : List Nat) := hx; cases hx), ?_⟩
  replace hb1 := hb1.keep0 k28
  replace hb2 := hb2.keep0 k28
  replace hb3 := hb3.keep0 k28
  replace hb4 := hb4.keep0 k28
  replace hb7 := hb7.keep0 k28
  replace hb8 := hb8.keep0 k28
  replace hb11 := hb11.keep0 k28
  replace hb12 := hb12.keep0 k28
  replace hB := hB.trans k28
  refine pa_d [(47, _), (48, _)] rfl rfl ⟨rfl, rfl, trivial⟩ rfl (fun w31 k31 => ?_)
  replace hb1 := hb1.keep0 k31
  replace hb2 := hb2.keep0 k31
  replace hb3 := hb3.keep0 k31
  replace hb4 := hb4.keep0 k31
  replace hb7 := hb7.keep0 k31
  replace hb8 := hb8.keep0 k31
  replace hb11 := hb11.keep0 k31
  replace hb12 := hb12.keep0 k31
  replace hB := hB.trans k31
  refine (d_call (vs := [_, _]) rfl (nminus_any _ _ _ _ E8 E1 _)).mono ?_
  rintro _ w30 ⟨hh9, rfl, E9, k30⟩
  refine ⟨k30, (fun x hx => by have hx : x ∈ ([] : List Nat) := hx; cases hx), ?_⟩
  replace hb1 := hb1.keep0 k30
  replace hb2 := hb2.keep0 k30
  replace hb3 := hb3.keep0 k30
  replace hb4 := hb4.keep0 k30
  replace hb7 := hb7.keep0 k30
  replace hb8 := hb8.keep0 k30
  replace hb11 := hb11.keep0 k30
  replace hb12 := hb12.keep0 k30
  replace hB := hB.trans k30
  refine pa_d [(49, _), (50, _)] rfl rfl ⟨rfl, rfl, trivial⟩ rfl (fun w33 k33 => ?_)
  replace hb1 := hb1.keep0 k33
  replace hb2 := hb2.keep0 k33
  replace hb3 := hb3.keep0 k33
  replace hb4 := hb4.keep0 k33
  replace hb7 := hb7.keep0 k33
  replace hb8 := hb8.keep0 k33
  replace hb11 := hb11.keep0 k33
  replace hb12 := hb12.keep0 k33
  replace hB := hB.trans k33
  refine (d_call (vs := [_, _]) rfl (nminus_any _ _ _ _ E9 E2 _)).mono ?_
  rintro _ w32 ⟨hh10, rfl, E10, k32⟩
  refine ⟨k32, (fun x hx => by have hx : x ∈ ([] : List Nat) := hx; cases hx), ?_⟩
  replace hb1 := hb1.keep0 k32
  replace hb2 := hb2.keep0 k32
  replace hb3 := hb3.keep0 k32
  replace hb4 := hb4.keep0 k32
  replace hb7 := hb7.keep0 k32
  replace hb8 := hb8.keep0 k32
  replace hb11 := hb11.keep0 k32
  replace hb12 := hb12.keep0 k32
  replace hB := hB.trans k32
  refine pa_nil (fun w34 k34 => ?_)
  replace hb1 := hb1.keep0 k34
  replace hb2 := hb2.keep0 k34
  replace hb3 := hb3.keep0 k34
  replace hb4 := hb4.keep0 k34
  replace hb7 := hb7.keep0 k34
  replace hb8 := hb8.keep0 k34
  replace hb11 := hb11.keep0 k34
  replace hb12 := hb12.keep0 k34
  replace hB := hB.trans k34
  intro b9 eb9 lb5 hb13 ds5 sp5
  have ge_b9 : w.heap.size ≤ b9 := Nat.le_trans gs3 eb9
  have ne_b1_b9 : b1 ≠ b9 := Nat.ne_of_lt (Nat.lt_of_lt_of_le lt11 eb9)
  have ne_b2_b9 : b2 ≠ b9 := Nat.ne_of_lt (Nat.lt_of_lt_of_le lt12 eb9)
  have ne_b3_b9 : b3 ≠ b9 := Nat.ne_of_lt (Nat.lt_of_lt_of_le lt13 eb9)
  have ne_b4_b9 : b4 ≠ b9 := Nat.ne_of_lt (Nat.lt_of_lt_of_le lt14 eb9)
  have ne_b5_b9 : b5 ≠ b9 := Nat.ne_of_lt (Nat.lt_of_lt_of_le lt15 eb9)
  have ne_b6_b9 : b6 ≠ b9 := Nat.ne_of_lt (Nat.lt_of_lt_of_le lt16 eb9)
  have ne_b7_b9 : b7 ≠ b9 := Nat.ne_of_lt (Nat.lt_of_lt_of_le lt17 eb9)
  have ne_b8_b9 : b8 ≠ b9 := Nat.ne_of_lt (Nat.lt_of_lt_of_le lt18 eb9)
  refine fina_nil ?_
  refine ow_d0 (d_sta ty28 rfl rfl rfl ivF_one hb13 rfl) ?_
  rintro _ w35 ⟨hb14, k35, z9⟩
  replace hb1 := hb1.keep k35 (fun hm => absurd (List.mem_singleton.1 hm) ne_b1_b9)
  replace hb2 := hb2.keep k35 (fun hm => absurd (List.mem_singleton.1 hm) ne_b2_b9)
  replace hb3 := hb3.keep k35 (fun hm => absurd (List.mem_singleton.1 hm) ne_b3_b9)
  replace hb4 := hb4.keep k35 (fun hm => absurd (List.mem_singleton.1 hm) ne_b4_b9)
  replace hb7 := hb7.keep k35 (fun hm => absurd (List.mem_singleton.1 hm) ne_b5_b9)
  replace hb8 := hb8.keep k35 (fun hm => absurd (List.mem_singleton.1 hm) ne_b6_b9)
  replace hb11 := hb11.keep k35 (fun hm => absurd (List.mem_singleton.1 hm) ne_b7_b9)
  replace hb12 := hb12.keep k35 (fun hm => absurd (List.mem_singleton.1 hm) ne_b8_b9)
  replace hB := hB.new k35 (fun x hx => .inl ((List.mem_singleton.1 hx) ▸ ge_b9))
  clear z9
  replace hb14 : Bk w35 b9 _ [.int .u64 (hh10 0), .int .u64 (hh10 1), .int .u64 (hh10 2), .int .u64 (hh10 3), .int .u64 (hh10 4)] := hb14
  refine ow_nil ?_
  refine tw_keep [(7, _), (8, _), (6, _), (9, _), (10, _), (11, _)] ⟨rfl, rfl, rfl, rfl, rfl, rfl, trivial⟩ ?_
  refine tw_seq ?_
  have gs4 := hB.size
  have lt19 := hb1.lt
  have lt20 := hb2.lt
  have lt21 := hb3.lt
  have lt22 := hb4.lt
  have lt23 := hb7.lt
  have lt24 := hb8.lt
  have lt25 := hb11.lt
  have lt26 := hb12.lt
  have lt27 := hb14.lt
  refine tw_planA 12 [0, 1, 3, 4, 6, 7, 2, 5, 8] [2, 5, 8] [] [(9, 28, [.int .u64 0, .int .u64 0, .int .u64 0, .int .u64 0, .int .u64 0]), (10, 28, [.int .u64 0, .int .u64 0, .int .u64 0, .int .u64 0, .int .u64 0]), (11, 28, [.int .u64 0, .int .u64 0, .int .u64 0, .int .u64 0, .int .u64 0])] mixed [(10, _), (9, _), (8, _), (7, _), (6, _), (11, _)] ⟨rfl, rfl, rfl, rfl, rfl, rfl, trivial⟩ (by decide +kernel) (by decide) (by decide) ?_ (fun x hx => by cases hx) rfl (fun w36 k36 => ?_)
  · simp only [List.forall_mem_cons]; exact ⟨⟨_, _, _, _, _, _, rfl, ty28⟩, ⟨_, _, _, _, _, _, rfl, ty28⟩, ⟨_, _, _, _, _, _, rfl, ty28⟩, fun q hq => by cases hq⟩
  replace hb1 := hb1.keep0 k36
  replace hb2 := hb2.keep0 k36
  replace hb3 := hb3.keep0 k36
  replace hb4 := hb4.keep0 k36
  replace hb7 := hb7.keep0 k36
  replace hb8 := hb8.keep0 k36
  replace hb11 := hb11.keep0 k36
  replace hb12 := hb12.keep0 k36
  replace hb14 := hb14.keep0 k36
  replace hB := hB.trans k36
  refine pa_g [(10, _)] rfl rfl ⟨rfl, trivial⟩ rfl (fun W' kk => g_ldab (cs' := [_, _, _, _, _]) ag28 ty28 rfl (Bk.keep0 hb12 kk) rfl rfl) ?_
  refine pa_g [(9, _)] rfl rfl ⟨rfl, trivial⟩ rfl (fun W' kk => g_ldab (cs' := [_, _, _, _, _]) ag28 ty28 rfl (Bk.keep0 hb11 kk) rfl rfl) ?_
  refine pa_g [(10, _)] rfl rfl ⟨rfl, trivial⟩ rfl (fun W' kk => g_ldab (cs' := [_, _, _, _, _]) ag28 ty28 rfl (Bk.keep0 hb12 kk) rfl rfl) ?_
  refine pa_g [(9, _)] rfl rfl ⟨rfl, trivial⟩ rfl (fun W' kk => g_ldab (cs' := [_, _, _, _, _]) ag28 ty28 rfl (Bk.keep0 hb11 kk) rfl rfl) ?_
  refine pa_g [(8, _)] rfl rfl ⟨rfl, trivial⟩ rfl (fun W' kk => g_ldab (cs' := [_, _, _, _, _]) ag28 ty28 rfl (Bk.keep0 hb8 kk) rfl rfl) ?_
  refine pa_g [(7, _)] rfl rfl ⟨rfl, trivial⟩ rfl (fun W' kk => g_ldab (cs' := [_, _, _, _, _]) ag28 ty28 rfl (Bk.keep0 hb7 kk) rfl rfl) ?_
  refine pa_d [(52, _), (53, _)] rfl rfl ⟨rfl, rfl, trivial⟩ rfl (fun w38 k38 => ?_)
  replace hb1 := hb1.keep0 k38
  replace hb2 := hb2.keep0 k38
  replace hb3 := hb3.keep0 k38
  replace hb4 := hb4.keep0 k38
  replace hb7 := hb7.keep0 k38
  replace hb8 := hb8.keep0 k38
  replace hb11 := hb11.keep0 k38
  replace hb12 := hb12.keep0 k38
  replace hb14 := hb14.keep0 k38
  replace hB := hB.trans k38
  refine (d_call (vs := [_, _]) rfl (nminus_any _ _ _ _ E5 E4 _)).mono ?_
  rintro _ w37 ⟨hh11, rfl, E11, k37⟩
  refine ⟨k37, (fun x hx => by have hx : x ∈ ([] : List Nat) := hx; cases hx), ?_⟩
  replace hb1 := hb1.keep0 k37
  replace hb2 := hb2.keep0 k37
  replace hb3 := hb3.keep0 k37
  replace hb4 := hb4.keep0 k37
  replace hb7 := hb7.keep0 k37
  replace hb8 := hb8.keep0 k37
  replace hb11 := hb11.keep0 k37
  replace hb12 := hb12.keep0 k37
  replace hb14 := hb14.keep0 k37
  replace hB := hB.trans k37
  refine pa_d [(55, _), (56, _)] rfl rfl ⟨rfl, rfl, trivial⟩ rfl (fun w40 k40 => ?_)
  replace hb1 := hb1.keep0 k40
  replace hb2 := hb2.keep0 k40
  replace hb3 := hb3.keep0 k40
  replace hb4 := hb4.keep0 k40
  replace hb7 := hb7.keep0 k40
  replace hb8 := hb8.keep0 k40
  replace hb11 := hb11.keep0 k40
  replace hb12 := hb12.keep0 k40
  replace hb14 := hb14.keep0 k40
  replace hB := hB.trans k40
  refine (d_call (vs := [_, _]) rfl (nplus_any _ _ _ _ E5 E4 _)).mono ?_
  rintro _ w39 ⟨hh12, rfl, E12, k39⟩
  refine ⟨k39, (fun x hx => by have hx : x ∈ ([] : List Nat) := hx; cases hx), ?_⟩
  replace hb1 := hb1.keep0 k39
  replace hb2 := hb2.keep0 k39
  replace hb3 := hb3.keep0 k39
  replace hb4 := hb4.keep0 k39
  replace hb7 := hb7.keep0 k39
  replace hb8 := hb8.keep0 k39
  replace hb11 := hb11.keep0 k39
  replace hb12 := hb12.keep0 k39
  replace hb14 := hb14.keep0 k39
  replace hB := hB.trans k39
  refine pa_d [(58, _), (59, _)] rfl rfl ⟨rfl, rfl, trivial⟩ rfl (fun w42 k42 => ?_)
  replace hb1 := hb1.keep0 k42
  replace hb2 := hb2.keep0 k42
  replace hb3 := hb3.keep0 k42
  replace hb4 := hb4.keep0 k42
  replace hb7 := hb7.keep0 k42
  replace hb8 := hb8.keep0 k42
  replace hb11 := hb11.keep0 k42
  replace hb12 := hb12.keep0 k42
  replace hb14 := hb14.keep0 k42
  replace hB := hB.trans k42
  refine (d_call (vs := [_, _]) rfl (nplus_any _ _ _ _ E2 E1 _)).mono ?_
  rintro _ w41 ⟨hh13, rfl, E13, k41⟩
  refine ⟨k41, (fun x hx => by have hx : x ∈ ([] : List Nat) := hx; cases hx), ?_⟩
  replace hb1 := hb1.keep0 k41
  replace hb2 := hb2.keep0 k41
  replace hb3 := hb3.keep0 k41
  replace hb4 := hb4.keep0 k41
  replace hb7 := hb7.keep0 k41
  replace hb8 := hb8.keep0 k41
  replace hb11 := hb11.keep0 k41
  replace hb12 := hb12.keep0 k41
  replace hb14 := hb14.keep0 k41
  replace hB := hB.trans k41
  refine pa_nil (fun w43 k43 => ?_)
  replace hb1 := hb1.keep0 k43
  replace hb2 := hb2.keep0 k43
  replace hb3 := hb3.keep0 k43
  replace hb4 := hb4.keep0 k43
  replace hb7 := hb7.keep0 k43
  replace hb8 := hb8.keep0 k43
  replace hb11 := hb11.keep0 k43
  replace hb12 := hb12.keep0 k43
  replace hb14 := hb14.keep0 k43
  replace hB := hB.trans k43
  intro b10 eb10 lb6 hb15 ds6 sp6
  have ge_b10 : w.heap.size ≤ b10 := Nat.le_trans gs4 eb10
  have ne_b1_b10 : b1 ≠ b10 := Nat.ne_of_lt (Nat.lt_of_lt_of_le lt19 eb10)
  have ne_b2_b10 : b2 ≠ b10 := Nat.ne_of_lt (Nat.lt_of_lt_of_le lt20 eb10)
  have ne_b3_b10 : b3 ≠ b10 := Nat.ne_of_lt (Nat.lt_of_lt_of_le lt21 eb10)
  have ne_b4_b10 : b4 ≠ b10 := Nat.ne_of_lt (Nat.lt_of_lt_of_le lt22 eb10)
  have ne_b5_b10 : b5 ≠ b10 := Nat.ne_of_lt (Nat.lt_of_lt_of_le lt23 eb10)
  have ne_b6_b10 : b6 ≠ b10 := Nat.ne_of_lt (Nat.lt_of_lt_of_le lt24 eb10)
  have ne_b7_b10 : b7 ≠ b10 := Nat.ne_of_lt (Nat.lt_of_lt_of_le lt25 eb10)
  have ne_b8_b10 : b8 ≠ b10 := Nat.ne_of_lt (Nat.lt_of_lt_of_le lt26 eb10)
  have ne_b9_b10 : b9 ≠ b10 := Nat.ne_of_lt (Nat.lt_of_lt_of_le lt27 eb10)
  intro b11 eb11 lb7 hb16 ds7 sp7
  have ge_b11 : w.heap.size ≤ b11 := Nat.le_trans gs4 eb11
  have ne_b1_b11 : b1 ≠ b11 := Nat.ne_of_lt (Nat.lt_of_lt_of_le lt19 eb11)
  have ne_b2_b11 : b2 ≠ b11 := Nat.ne_of_lt (Nat.lt_of_lt_of_le lt20 eb11)
  have ne_b3_b11 : b3 ≠ b11 := Nat.ne_of_lt (Nat.lt_of_lt_of_le lt21 eb11)
  have ne_b4_b11 : b4 ≠ b11 := Nat.ne_of_lt (Nat.lt_of_lt_of_le lt22 eb11)
  have ne_b5_b11 : b5 ≠ b11 := Nat.ne_of_lt (Nat.lt_of_lt_of_le lt23 eb11)
  have ne_b6_b11 : b6 ≠ b11 := Nat.ne_of_lt (Nat.lt_of_lt_of_le lt24 eb11)
  have ne_b7_b11 : b7 ≠ b11 := Nat.ne_of_lt (Nat.lt_of_lt_of_le lt25 eb11)
  have ne_b8_b11 : b8 ≠ b11 := Nat.ne_of_lt (Nat.lt_of_lt_of_le lt26 eb11)
  have ne_b9_b11 : b9 ≠ b11 := Nat.ne_of_lt (Nat.lt_of_lt_of_le lt27 eb11)
  have ne3 := ds7 b10 (by simp)
  intro b12 eb12 lb8 hb17 ds8 sp8
  have ge_b12 : w.heap.size ≤ b12 := Nat.le_trans gs4 eb12
  have ne_b1_b12 : b1 ≠ b12 := Nat.ne_of_lt (Nat.lt_of_lt_of_le lt19 eb12)
  have ne_b2_b12 : b2 ≠ b12 := Nat.ne_of_lt (Nat.lt_of_lt_of_le lt20 eb12)
  have ne_b3_b12 : b3 ≠ b12 := Nat.ne_of_lt (Nat.lt_of_lt_of_le lt21 eb12)
  have ne_b4_b12 : b4 ≠ b12 := Nat.ne_of_lt (Nat.lt_of_lt_of_le lt22 eb12)
  have ne_b5_b12 : b5 ≠ b12 := Nat.ne_of_lt (Nat.lt_of_lt_of_le lt23 eb12)
  have ne_b6_b12 : b6 ≠ b12 := Nat.ne_of_lt (Nat.lt_of_lt_of_le lt24 eb12)
  have ne_b7_b12 : b7 ≠ b12 := Nat.ne_of_lt (Nat.lt_of_lt_of_le lt25 eb12)
  have ne_b8_b12 : b8 ≠ b12 := Nat.ne_of_lt (Nat.lt_of_lt_of_le lt26 eb12)
  have ne_b9_b12 : b9 ≠ b12 := Nat.ne_of_lt (Nat.lt_of_lt_of_le lt27 eb12)
  have ne4 := ds8 b10 (by simp)
  have ne5 := ds8 b11 (by simp)
  refine fina_nil ?_
  refine ow_d0 (d_sta ty28 rfl rfl rfl ivF_one hb15 rfl) ?_
  rintro _ w44 ⟨hb18, k44, z10⟩
  replace hb1 := hb1.keep k44 (fun hm => absurd (List.mem_singleton.1 hm) ne_b1_b10)
  replace hb2 := hb2.keep k44 (fun hm => absurd (List.mem_singleton.1 hm) ne_b2_b10)
  replace hb3 := hb3.keep k44 (fun hm => absurd (List.mem_singleton.1 hm) ne_b3_b10)
  replace hb4 := hb4.keep k44 (fun hm => absurd (List.mem_singleton.1 hm) ne_b4_b10)
  replace hb7 := hb7.keep k44 (fun hm => absurd (List.mem_singleton.1 hm) ne_b5_b10)
  replace hb8 := hb8.keep k44 (fun hm => absurd (List.mem_singleton.1 hm) ne_b6_b10)
  replace hb11 := hb11.keep k44 (fun hm => absurd (List.mem_singleton.1 hm) ne_b7_b10)
  replace hb12 := hb12.keep k44 (fun hm => absurd (List.mem_singleton.1 hm) ne_b8_b10)
  replace hb14 := hb14.keep k44 (fun hm => absurd (List.mem_singleton.1 hm) ne_b9_b10)
  replace hb16 := hb16.keep k44 (fun hm => absurd (List.mem_singleton.1 hm) (Ne.symm ne3))
  replace hb17 := hb17.keep k44 (fun hm => absurd (List.mem_singleton.1 hm) (Ne.symm ne4))
  replace hB := hB.new k44 (fun x hx => .inl ((List.mem_singleton.1 hx) ▸ ge_b10))
  clear z10
  replace hb18 : Bk w44 b10 _ [.int .u64 (hh11 0), .int .u64 (hh11 1), .int .u64 (hh11 2), .int .u64 (hh11 3), .int .u64 (hh11 4)] := hb18
  refine ow_d0 (d_sta ty28 rfl rfl rfl ivF_one hb16 rfl) ?_
  rintro _ w45 ⟨hb19, k45, z11⟩
  replace hb1 := hb1.keep k45 (fun hm => absurd (List.mem_singleton.1 hm) ne_b1_b11)
  replace hb2 := hb2.keep k45 (fun hm => absurd (List.mem_singleton.1 hm) ne_b2_b11)
  replace hb3 := hb3.keep k45 (fun hm => absurd (List.mem_singleton.1 hm) ne_b3_b11)
  replace hb4 := hb4.keep k45 (fun hm => absurd (List.mem_singleton.1 hm) ne_b4_b11)
  replace hb7 := hb7.keep k45 (fun hm => absurd (List.mem_singleton.1 hm) ne_b5_b11)
  replace hb8 := hb8.keep k45 (fun hm => absurd (List.mem_singleton.1 hm) ne_b6_b11)
  replace hb11 := hb11.keep k45 (fun hm => absurd (List.mem_singleton.1 hm) ne_b7_b11)
  replace hb12 := hb12.keep k45 (fun hm => absurd (List.mem_singleton.1 hm) ne_b8_b11)
  replace hb14 := hb14.keep k45 (fun hm => absurd (List.mem_singleton.1 hm) ne_b9_b11)
  replace hb17 := hb17.keep k45 (fun hm => absurd (List.mem_singleton.1 hm) (Ne.symm ne5))
  replace hb18 := hb18.keep k45 (fun hm => absurd (List.mem_singleton.1 hm) ne3)
  replace hB := hB.new k45 (fun x hx => .inl ((List.mem_singleton.1 hx) ▸ ge_b11))
  clear z11
  replace hb19 : Bk w45 b11 _ [.int .u64 (hh12 0), .int .u64 (hh12 1), .int .u64 (hh12 2), .int .u64 (hh12 3), .int .u64 (hh12 4)] := hb19
  refine ow_d0 (d_sta ty28 rfl rfl rfl ivF_one hb17 rfl) ?_
  rintro _ w46 ⟨hb20, k46, z12⟩
  replace hb1 := hb1.keep k46 (fun hm => absurd (List.mem_singleton.1 hm) ne_b1_b12)
  replace hb2 := hb2.keep k46 (fun hm => absurd (List.mem_singleton.1 hm) ne_b2_b12)
  replace hb3 := hb3.keep k46 (fun hm => absurd (List.mem_singleton.1 hm) ne_b3_b12)
  replace hb4 := hb4.keep k46 (fun hm => absurd (List.mem_singleton.1 hm) ne_b4_b12)
  replace hb7 := hb7.keep k46 (fun hm => absurd (List.mem_singleton.1 hm) ne_b5_b12)
  replace hb8 := hb8.keep k46 (fun hm => absurd (List.mem_singleton.1 hm) ne_b6_b12)
  replace hb11 := hb11.keep k46 (fun hm => absurd (List.mem_singleton.1 hm) ne_b7_b12)
  replace hb12 := hb12.keep k46 (fun hm => absurd (List.mem_singleton.1 hm) ne_b8_b12)
  replace hb14 := hb14.keep k46 (fun hm => absurd (List.mem_singleton.1 hm) ne_b9_b12)
  replace hb18 := hb18.keep k46 (fun hm => absurd (List.mem_singleton.1 hm) ne4)
  replace hb19 := hb19.keep k46 (fun hm => absurd (List.mem_singleton.1 hm) ne5)
  replace hB := hB.new k46 (fun x hx => .inl ((List.mem_singleton.1 hx) ▸ ge_b12))
  clear z12
  replace hb20 : Bk w46 b12 _ [.int .u64 (hh13 0), .int .u64 (hh13 1), .int .u64 (hh13 2), .int .u64 (hh13 3), .int .u64 (hh13 4)] := hb20
  refine ow_nil ?_
  refine tw_keep [(6, _), (11, _), (12, _), (13, _), (14, _)] ⟨rfl, rfl, rfl, rfl, rfl, trivial⟩ ?_
  refine tw_seq ?_
  refine tw_plan 13 [0, 1, 3, 4, 6, 7, 9, 10, 2, 5, 8, 11, 12] [2, 5, 8, 11] [] mixed [(11, _), (12, _), (13, _), (14, _), (6, _)] ⟨rfl, rfl, rfl, rfl, rfl, trivial⟩ (by decide +kernel) rfl (fun w47 k47 => ?_)
  replace hb1 := hb1.keep0 k47
  replace hb2 := hb2.keep0 k47
  replace hb3 := hb3.keep0 k47
  replace hb4 := hb4.keep0 k47
  replace hb7 := hb7.keep0 k47
  replace hb8 := hb8.keep0 k47
  replace hb11 := hb11.keep0 k47
  replace hb12 := hb12.keep0 k47
  replace hb14 := hb14.keep0 k47
  replace hb18 := hb18.keep0 k47
  replace hb19 := hb19.keep0 k47
  replace hb20 := hb20.keep0 k47
  replace hB := hB.trans k47
  refine pw_g [(11, _)] rfl rfl ⟨rfl, trivial⟩ rfl (fun W' kk => g_ldab (cs' := [_, _, _, _, _]) ag28 ty28 rfl (Bk.keep0 hb14 kk) rfl rfl) ?_
  refine pw_g [(12, _)] rfl rfl ⟨rfl, trivial⟩ rfl (fun W' kk => g_ldab (cs' := [_, _, _, _, _]) ag28 ty28 rfl (Bk.keep0 hb18 kk) rfl rfl) ?_
  refine pw_g [(13, _)] rfl rfl ⟨rfl, trivial⟩ rfl (fun W' kk => g_ldab (cs' := [_, _, _, _, _]) ag28 ty28 rfl (Bk.keep0 hb19 kk) rfl rfl) ?_
  refine pw_g [(14, _)] rfl rfl ⟨rfl, trivial⟩ rfl (fun W' kk => g_ldab (cs' := [_, _, _, _, _]) ag28 ty28 rfl (Bk.keep0 hb20 kk) rfl rfl) ?_
  refine pw_g [(12, _)] rfl rfl ⟨rfl, trivial⟩ rfl (fun W' kk => g_ldab (cs' := [_, _, _, _, _]) ag28 ty28 rfl (Bk.keep0 hb18 kk) rfl rfl) ?_
  refine pw_g [(13, _)] rfl rfl ⟨rfl, trivial⟩ rfl (fun W' kk => g_ldab (cs' := [_, _, _, _, _]) ag28 ty28 rfl (Bk.keep0 hb19 kk) rfl rfl) ?_
  refine pw_g [(11, _)] rfl rfl ⟨rfl, trivial⟩ rfl (fun W' kk => g_ldab (cs' := [_, _, _, _, _]) ag28 ty28 rfl (Bk.keep0 hb14 kk) rfl rfl) ?_
  refine pw_g [(14, _)] rfl rfl ⟨rfl, trivial⟩ rfl (fun W' kk => g_ldab (cs' := [_, _, _, _, _]) ag28 ty28 rfl (Bk.keep0 hb20 kk) rfl rfl) ?_
  refine pw_d [(61, _), (62, _)] rfl rfl ⟨rfl, rfl, trivial⟩ rfl (d_call (vs := [_, _]) rfl (ntimes_any _ _ _ _ E10 E11 _)) ?_
  rintro _ w48 ⟨hh14, rfl, E14, k48⟩
  refine ⟨k48, ?_⟩
  replace hb1 := hb1.keep0 k48
  replace hb2 := hb2.keep0 k48
  replace hb3 := hb3.keep0 k48
  replace hb4 := hb4.keep0 k48
  replace hb7 := hb7.keep0 k48
  replace hb8 := hb8.keep0 k48
  replace hb11 := hb11.keep0 k48
  replace hb12 := hb12.keep0 k48
  replace hb14 := hb14.keep0 k48
  replace hb18 := hb18.keep0 k48
  replace hb19 := hb19.keep0 k48
  replace hb20 := hb20.keep0 k48
  replace hB := hB.trans k48
  refine pw_d [(64, _), (65, _)] rfl rfl ⟨rfl, rfl, trivial⟩ rfl (d_call (vs := [_, _]) rfl (ntimes_any _ _ _ _ E12 E13 _)) ?_
  rintro _ w49 ⟨hh15, rfl, E15, k49⟩
  refine ⟨k49, ?_⟩
  replace hb1 := hb1.keep0 k49
  replace hb2 := hb2.keep0 k49
  replace hb3 := hb3.keep0 k49
  replace hb4 := hb4.keep0 k49
  replace hb7 := hb7.keep0 k49
  replace hb8 := hb8.keep0 k49
  replace hb11 := hb11.keep0 k49
  replace hb12 := hb12.keep0 k49
  replace hb14 := hb14.keep0 k49
  replace hb18 := hb18.keep0 k49
  replace hb19 := hb19.keep0 k49
  replace hb20 := hb20.keep0 k49
  replace hB := hB.trans k49
  refine pw_d [(67, _), (68, _)] rfl rfl ⟨rfl, rfl, trivial⟩ rfl (d_call (vs := [_, _]) rfl (ntimes_any _ _ _ _ E11 E12 _)) ?_
  rintro _ w50 ⟨hh16, rfl, E16, k50⟩
  refine ⟨k50, ?_⟩
  replace hb1 := hb1.keep0 k50
  replace hb2 := hb2.keep0 k50
  replace hb3 := hb3.keep0 k50
  replace hb4 := hb4.keep0 k50
  replace hb7 := hb7.keep0 k50
  replace hb8 := hb8.keep0 k50
  replace hb11 := hb11.keep0 k50
  replace hb12 := hb12.keep0 k50
  replace hb14 := hb14.keep0 k50
  replace hb18 := hb18.keep0 k50
  replace hb19 := hb19.keep0 k50
  replace hb20 := hb20.keep0 k50
  replace hB := hB.trans k50
  refine pw_d [(70, _), (71, _)] rfl rfl ⟨rfl, rfl, trivial⟩ rfl (d_call (vs := [_, _]) rfl (ntimes_any _ _ _ _ E10 E13 _)) ?_
  rintro _ w51 ⟨hh17, rfl, E17, k51⟩
  refine ⟨k51, ?_⟩
  replace hb1 := hb1.keep0 k51
  replace hb2 := hb2.keep0 k51
  replace hb3 := hb3.keep0 k51
  replace hb4 := hb4.keep0 k51
  replace hb7 := hb7.keep0 k51
  replace hb8 := hb8.keep0 k51
  replace hb11 := hb11.keep0 k51
  replace hb12 := hb12.keep0 k51
  replace hb14 := hb14.keep0 k51
  replace hb18 := hb18.keep0 k51
  replace hb19 := hb19.keep0 k51
  replace hb20 := hb20.keep0 k51
  replace hB := hB.trans k51
  refine pw_g [(63, _), (66, _), (69, _), (72, _)] rfl rfl ⟨rfl, rfl, rfl, rfl, trivial⟩ rfl (fun W' kk => g_bld (idx := [0, 1, 2, 3]) (xs := [.tmp 63, .tmp 66, .tmp 69, .tmp 72]) (vs := [_, _, _, _]) (css := [[_, _, _, _, _], [_, _, _, _, _], [_, _, _, _, _], [_, _, _, _, _]]) (out := [_, _, _, _, _, _, _, _, _, _, _, _, _, _, _, _, _, _, _, _]) pl30 ty30 rfl rfl ⟨rfl, rfl, rfl, rfl, trivial⟩ rfl rfl) ?_
  refine pw_nil ?_
  refine ow_d0 (d_sta ty30 rfl rfl rfl (by simp only [List.forall_mem_cons]; refine ⟨rfl, rfl, rfl, rfl, rfl, rfl, rfl, rfl, rfl, rfl, rfl, rfl, rfl, rfl, rfl, rfl, rfl, rfl, rfl, rfl, fun v hv => by cases hv⟩) hb4 rfl) ?_
  rintro _ w52 ⟨hb21, k52, z13⟩
  replace hb1 := hb1.keep k52 (fun hm => absurd (List.mem_singleton.1 hm) ne_b1_b4)
  replace hb2 := hb2.keep k52 (fun hm => absurd (List.mem_singleton.1 hm) ne_b2_b4)
  replace hb3 := hb3.keep k52 (fun hm => absurd (List.mem_singleton.1 hm) ne_b3_b4)
  replace hb7 := hb7.keep k52 (fun hm => absurd (List.mem_singleton.1 hm) (Ne.symm ne_b4_b5))
  replace hb8 := hb8.keep k52 (fun hm => absurd (List.mem_singleton.1 hm) (Ne.symm ne_b4_b6))
  replace hb11 := hb11.keep k52 (fun hm => absurd (List.mem_singleton.1 hm) (Ne.symm ne_b4_b7))
  replace hb12 := hb12.keep k52 (fun hm => absurd (List.mem_singleton.1 hm) (Ne.symm ne_b4_b8))
  replace hb14 := hb14.keep k52 (fun hm => absurd (List.mem_singleton.1 hm) (Ne.symm ne_b4_b9))
  replace hb18 := hb18.keep k52 (fun hm => absurd (List.mem_singleton.1 hm) (Ne.symm ne_b4_b10))
  replace hb19 := hb19.keep k52 (fun hm => absurd (List.mem_singleton.1 hm) (Ne.symm ne_b4_b11))
  replace hb20 := hb20.keep k52 (fun hm => absurd (List.mem_singleton.1 hm) (Ne.symm ne_b4_b12))
  replace hB := hB.new k52 (fun x hx => .inl ((List.mem_singleton.1 hx) ▸ ge_b4))
  clear z13
  replace hb21 : Bk w52 b4 _ [.int .u64 (hh14 0), .int .u64 (hh14 1), .int .u64 (hh14 2), .int .u64 (hh14 3), .int .u64 (hh14 4), .int .u64 (hh15 0), .int .u64 (hh15 1), .int .u64 (hh15 2), .int .u64 (hh15 3), .int .u64 (hh15 4), .int .u64 (hh16 0), .int .u64 (hh16 1), .int .u64 (hh16 2), .int .u64 (hh16 3), .int .u64 (hh16 4), .int .u64 (hh17 0), .int .u64 (hh17 1), .int .u64 (hh17 2), .int .u64 (hh17 3), .int .u64 (hh17 4)] := hb21
  refine ow_nil ?_
  refine tw_keep [(6, _)] ⟨rfl, trivial⟩ ?_
  refine tw_retc hfin Try.results58 rfl (run_loadAgg ag30 ty30 (by assumption) rfl)  ?_
  exact ⟨(vecN [(hh14 0), (hh14 1), (hh14 2), (hh14 3), (hh14 4), (hh15 0), (hh15 1), (hh15 2), (hh15 3), (hh15 4), (hh16 0), (hh16 1), (hh16 2), (hh16 3), (hh16 4), (hh17 0), (hh17 1), (hh17 2), (hh17 3), (hh17 4)]), rfl, ⟨E14, E15, E16, E17⟩, hB⟩

set_option maxRecDepth 100000 in
set_option maxHeartbeats 1000000 in
theorem pdouble_any (p : Nat → Int) (X1 Y1 Z1 T1 : Fp) (hp : PtEl p X1 Y1 Z1 T1) (w : World) : Rets Try.prog 59 [.agg (iv .u64 20 p).toArray] w (fun v w' => ∃ r, v = .agg (iv .u64 20 r).toArray ∧ PtEl r ((X1 * X1 + Y1 * Y1 - (X1 + Y1) * (X1 + Y1)) * (Z1 * Z1 + Z1 * Z1 + (X1 * X1 - Y1 * Y1))) ((X1 * X1 - Y1 * Y1) * (X1 * X1 + Y1 * Y1)) ((Z1 * Z1 + Z1 * Z1 + (X1 * X1 - Y1 * Y1)) * (X1 * X1 - Y1 * Y1)) ((X1 * X1 + Y1 * Y1 - (X1 + Y1) * (X1 + Y1)) * (X1 * X1 + Y1 * Y1)) ∧ Keep [] w w') := by
  have hB : Keep [] w w := Keep.refl _ _
  refine rets_of_tw Try.func59 rfl (by decide) Try.ntmps59 rfl (fun fin _ hfin => ?_)
  refine tw_seq ?_
  refine tw_region ?_
  refine ow_d (d_box (cs := [.int .u64 (p 0), .int .u64 (p 1), .int .u64 (p 2), .int .u64 (p 3), .int .u64 (p 4), .int .u64 (p 5), .int .u64 (p 6), .int .u64 (p 7), .int .u64 (p 8), .int .u64 (p 9), .int .u64 (p 10), .int .u64 (p 11), .int .u64 (p 12), .int .u64 (p 13), .int .u64 (p 14), .int .u64 (p 15), .int .u64 (p 16), .int .u64 (p 17), .int .u64 (p 18), .int .u64 (p 19)]) rfl rfl) rfl ?_
  rintro _ w1 ⟨b1, rfl, eb1, hb1, k1, z1⟩
  have ge_b1 : w.heap.size ≤ b1 := by have := hB.size; omega
  replace hB := hB.trans k1
  clear eb1 z1
  refine ow_d (d_alloc ty30) rfl ?_
  rintro _ w2 ⟨b2, rfl, eb2, hb2, k2, z2⟩
  have ge_b2 : w.heap.size ≤ b2 := by have := hB.size; omega
  have ne_b1_b2 : b1 ≠ b2 := by have := hb1.lt; omega
  replace hb1 := hb1.keep0 k2
  replace hB := hB.trans k2
  clear eb2 z2
  refine ow_nil ?_
  refine tw_keep [(1, _), (2, _)] ⟨rfl, rfl, trivial⟩ ?_
  refine tw_seq ?_
  have gs1 := hB.size
  have lt1 := hb1.lt
  have lt2 := hb2.lt
  refine tw_planA 18 [0, 1, 2, 3, 5, 6, 7, 8, 10, 11, 12, 13, 4, 9, 14] [4, 9, 14] [] [(15, 28, [.int .u64 0, .int .u64 0, .int .u64 0, .int .u64 0, .int .u64 0]), (16, 28, [.int .u64 0, .int .u64 0, .int .u64 0, .int .u64 0, .int .u64 0]), (17, 28, [.int .u64 0, .int .u64 0, .int .u64 0, .int .u64 0, .int .u64 0])] mixed [(1, _), (2, _)] ⟨rfl, rfl, trivial⟩ (by decide +kernel) (by decide) (by decide) ?_ (fun x hx => by cases hx) rfl (fun w3 k3 => ?_)
  · simp only [List.forall_mem_cons]; exact ⟨⟨_, _, _, _, _, _, rfl, ty28⟩, ⟨_, _, _, _, _, _, rfl, ty28⟩, ⟨_, _, _, _, _, _, rfl, ty28⟩, fun q hq => by cases hq⟩
  replace hb1 := hb1.keep0 k3
  replace hb2 := hb2.keep0 k3
  replace hB := hB.trans k3
  refine pa_g [(1, _)] rfl rfl ⟨rfl, trivial⟩ rfl (fun W' kk => g_fa Try.underlying30 rfl ty28 (by decide) rfl) ?_
  refine pa_g [(11, _)] rfl rfl ⟨rfl, trivial⟩ rfl (fun W' kk => g_ldab (cs' := [_, _, _, _, _]) ag28 ty28 rfl (Bk.keep0 hb1 kk) rfl rfl) ?_
  refine pa_g [(1, _)] rfl rfl ⟨rfl, trivial⟩ rfl (fun W' kk => g_fa Try.underlying30 rfl ty28 (by decide) rfl) ?_
  refine pa_g [(13, _)] rfl rfl ⟨rfl, trivial⟩ rfl (fun W' kk => g_ldab (cs' := [_, _, _, _, _]) ag28 ty28 rfl (Bk.keep0 hb1 kk) rfl rfl) ?_
  refine pa_g [(1, _)] rfl rfl ⟨rfl, trivial⟩ rfl (fun W' kk => g_fa Try.underlying30 rfl ty28 (by decide) rfl) ?_
  refine pa_g [(16, _)] rfl rfl ⟨rfl, trivial⟩ rfl (fun W' kk => g_ldab (cs' := [_, _, _, _, _]) ag28 ty28 rfl (Bk.keep0 hb1 kk) rfl rfl) ?_
  refine pa_g [(1, _)] rfl rfl ⟨rfl, trivial⟩ rfl (fun W' kk => g_fa Try.underlying30 rfl ty28 (by decide) rfl) ?_
  refine pa_g [(18, _)] rfl rfl ⟨rfl, trivial⟩ rfl (fun W' kk => g_ldab (cs' := [_, _, _, _, _]) ag28 ty28 rfl (Bk.keep0 hb1 kk) rfl rfl) ?_
  refine pa_g [(1, _)] rfl rfl ⟨rfl, trivial⟩ rfl (fun W' kk => g_fa Try.underlying30 rfl ty28 (by decide) rfl) ?_
  refine pa_g [(21, _)] rfl rfl ⟨rfl, trivial⟩ rfl (fun W' kk => g_ldab (cs' := [_, _, _, _, _]) ag28 ty28 rfl (Bk.keep0 hb1 kk) rfl rfl) ?_
  refine pa_g [(1, _)] rfl rfl ⟨rfl, trivial⟩ rfl (fun W' kk => g_fa Try.underlying30 rfl ty28 (by decide) rfl) ?_
  refine pa_g [(23, _)] rfl rfl ⟨rfl, trivial⟩ rfl (fun W' kk => g_ldab (cs' := [_, _, _, _, _]) ag28 ty28 rfl (Bk.keep0 hb1 kk) rfl rfl) ?_
  refine pa_d [(12, _), (14, _)] rfl rfl ⟨rfl, rfl, trivial⟩ rfl (fun w5 k5 => ?_)
  replace hb1 := hb1.keep0 k5
  replace hb2 := hb2.keep0 k5
  replace hB := hB.trans k5
  refine (d_call (vs := [_, _]) rfl (ntimes_any _ _ _ _ hp.1 hp.1 _)).mono ?_
  rintro _ w4 ⟨hh1, rfl, E1, k4⟩
  refine ⟨k4, (fun x hx => by have hx : x ∈ ([] : List Nat) := hx; cases hx), ?_⟩
  replace hb1 := hb1.keep0 k4
  replace hb2 := hb2.keep0 k4
  replace hB := hB.trans k4
  refine pa_d [(17, _), (19, _)] rfl rfl ⟨rfl, rfl, trivial⟩ rfl (fun w7 k7 => ?_)
  replace hb1 := hb1.keep0 k7
  replace hb2 := hb2.keep0 k7
  replace hB := hB.trans k7
  refine (d_call (vs := [_, _]) rfl (ntimes_any _ _ _ _ hp.2.1 hp.2.1 _)).mono ?_
  rintro _ w6 ⟨hh2, rfl, E2, k6⟩
  refine ⟨k6, (fun x hx => by have hx : x ∈ ([] : List Nat) := hx; cases hx), ?_⟩
  replace hb1 := hb1.keep0 k6
  replace hb2 := hb2.keep0 k6
  replace hB := hB.trans k6
  refine pa_d [(22, _), (24, _)] rfl rfl ⟨rfl, rfl, trivial⟩ rfl (fun w9 k9 => ?_)
  replace hb1 := hb1.keep0 k9
  replace hb2 := hb2.keep0 k9
  replace hB := hB.trans k9
  refine (d_call (vs := [_, _]) rfl (ntimes_any _ _ _ _ hp.2.2.1 hp.2.2.1 _)).mono ?_
  rintro _ w8 ⟨hh3, rfl, E3, k8⟩
  refine ⟨k8, (fun x hx => by have hx : x ∈ ([] : List Nat) := hx; cases hx), ?_⟩
  replace hb1 := hb1.keep0 k8
  replace hb2 := hb2.keep0 k8
  replace hB := hB.trans k8
  refine pa_nil (fun w10 k10 => ?_)
  replace hb1 := hb1.keep0 k10
  replace hb2 := hb2.keep0 k10
  replace hB := hB.trans k10
  intro b3 eb3 lb1 hb3 ds1 sp1
  have ge_b3 : w.heap.size ≤ b3 := Nat.le_trans gs1 eb3
  have ne_b1_b3 : b1 ≠ b3 := Nat.ne_of_lt (Nat.lt_of_lt_of_le lt1 eb3)
  have ne_b2_b3 : b2 ≠ b3 := Nat.ne_of_lt (Nat.lt_of_lt_of_le lt2 eb3)
  intro b4 eb4 lb2 hb4 ds2 sp2
  have ge_b4 : w.heap.size ≤ b4 := Nat.le_trans gs1 eb4
  have ne_b1_b4 : b1 ≠ b4 := Nat.ne_of_lt (Nat.lt_of_lt_of_le lt1 eb4)
  have ne_b2_b4 : b2 ≠ b4 := Nat.ne_of_lt (Nat.lt_of_lt_of_le lt2 eb4)
  have ne1 := ds2 b3 (by simp)
  intro b5 eb5 lb3 hb5 ds3 sp3
  have ge_b5 : w.heap.size ≤ b5 := Nat.le_trans gs1 eb5
  have ne_b1_b5 : b1 ≠ b5 := Nat.ne_of_lt (Nat.lt_of_lt_of_le lt1 eb5)
  have ne_b2_b5 : b2 ≠ b5 := Nat.ne_of_lt (Nat.lt_of_lt_of_le lt2 eb5)
  have ne2 := ds3 b3 (by simp)
  have ne3 := ds3 b4 (by simp)
  refine fina_nil ?_
  refine ow_d0 (d_sta ty28 rfl rfl rfl ivF_one hb3 rfl) ?_
  rintro _ w11 ⟨hb6, k11, z3⟩
  replace hb1 := hb1.keep k11 (fun hm => absurd (List.mem_singleton.1 hm) ne_b1_b3)
  replace hb2 := hb2.keep k11 (fun hm => absurd (List.mem_singleton.1 hm) ne_b2_b3)
  replace hb4 := hb4.keep k11 (fun hm => absurd (List.mem_singleton.1 hm) (Ne.symm ne1))
  replace hb5 := hb5.keep k11 (fun hm => absurd (List.mem_singleton.1 hm) (Ne.symm ne2))
  replace hB := hB.new k11 (fun x hx => .inl ((List.mem_singleton.1 hx) ▸ ge_b3))
  clear z3
  replace hb6 : Bk w11 b3 _ [.int .u64 (hh1 0), .int .u64 (hh1 1), .int .u64 (hh1 2), .int .u64 (hh1 3), .int .u64 (hh1 4)] := hb6
  refine ow_d0 (d_sta ty28 rfl rfl rfl ivF_one hb4 rfl) ?_
  rintro _ w12 ⟨hb7, k12, z4⟩
  replace hb1 := hb1.keep k12 (fun hm => absurd (List.mem_singleton.1 hm) ne_b1_b4)
  replace hb2 := hb2.keep k12 (fun hm => absurd (List.mem_singleton.1 hm) ne_b2_b4)
  replace hb5 := hb5.keep k12 (fun hm => absurd (List.mem_singleton.1 hm) (Ne.symm ne3))
  replace hb6 := hb6.keep k12 (fun hm => absurd (List.mem_singleton.1 hm) ne1)
  replace hB := hB.new k12 (fun x hx => .inl ((List.mem_singleton.1 hx) ▸ ge_b4))
  clear z4
  replace hb7 : Bk w12 b4 _ [.int .u64 (hh2 0), .int .u64 (hh2 1), .int .u64 (hh2 2), .int .u64 (hh2 3), .int .u64 (hh2 4)] := hb7
  refine ow_d0 (d_sta ty28 rfl rfl rfl ivF_one hb5 rfl) ?_
  rintro _ w13 ⟨hb8, k13, z5⟩
  replace hb1 := hb1.keep k13 (fun hm => absurd (List.mem_singleton.1 hm) ne_b1_b5)
  replace hb2 := hb2.keep k13 (fun hm => absurd (List.mem_singleton.1 hm) ne_b2_b5)
  replace hb6 := hb6.keep k13 (fun hm => absurd (List.mem_singleton.1 hm) ne2)
  replace hb7 := hb7.keep k13 (fun hm => absurd (List.mem_singleton.1 hm) ne3)
  replace hB := hB.new k13 (fun x hx => .inl ((List.mem_singleton.1 hx) ▸ ge_b5))
  clear z5
  replace hb8 : Bk w13 b5 _ [.int .u64 (hh3 0), .int .u64 (hh3 1), .int .u64 (hh3 2), .int .u64 (hh3 3), .int .u64 (hh3 4)] := hb8
  refine ow_nil ?_
  refine tw_keep [(1, _), (2, _), (3, _), (4, _), (5, _)] ⟨rfl, rfl, rfl, rfl, rfl, trivial⟩ ?_
  refine tw_seq ?_
  refine tw_region ?_
  refine ow_g (g_fa Try.underlying30 rfl ty28 (by decide) rfl) rfl ?_
  refine ow_g (g_ldab (cs' := [_, _, _, _, _]) ag28 ty28 rfl hb1 rfl rfl) rfl ?_
  refine ow_g (g_fa Try.underlying30 rfl ty28 (by decide) rfl) rfl ?_
  refine ow_g (g_ldab (cs' := [_, _, _, _, _]) ag28 ty28 rfl hb1 rfl rfl) rfl ?_
  refine ow_d (d_call (vs := [_, _]) rfl (nplus_any _ _ _ _ hp.1 hp.2.1 _)) rfl ?_
  rintro _ w14 ⟨hh4, rfl, E4, k14⟩
  replace hb1 := hb1.keep0 k14
  replace hb2 := hb2.keep0 k14
  replace hb6 := hb6.keep0 k14
  replace hb7 := hb7.keep0 k14
  replace hb8 := hb8.keep0 k14
  replace hB := hB.trans k14
  refine ow_d (d_alloc ty28) rfl ?_
  rintro _ w15 ⟨b6, rfl, eb6, hb9, k15, z6⟩
  have ge_b6 : w.heap.size ≤ b6 := by have := hB.size; omega
  have ne_b1_b6 : b1 ≠ b6 := by have := hb1.lt; omega
  have ne_b2_b6 : b2 ≠ b6 := by have := hb2.lt; omega
  have ne_b3_b6 : b3 ≠ b6 := by have := hb6.lt; omega
  have ne_b4_b6 : b4 ≠ b6 := by have := hb7.lt; omega
  have ne_b5_b6 : b5 ≠ b6 := by have := hb8.lt; omega
  replace hb1 := hb1.keep0 k15
  replace hb2 := hb2.keep0 k15
  replace hb6 := hb6.keep0 k15
  replace hb7 := hb7.keep0 k15
  replace hb8 := hb8.keep0 k15
  replace hB := hB.trans k15
  clear eb6 z6
  refine ow_d0 (d_sta ty28 rfl rfl rfl ivF_one hb9 rfl) ?_
  rintro _ w16 ⟨hb10, k16, z7⟩
  replace hb1 := hb1.keep k16 (fun hm => absurd (List.mem_singleton.1 hm) ne_b1_b6)
  replace hb2 := hb2.keep k16 (fun hm => absurd (List.mem_singleton.1 hm) ne_b2_b6)
  replace hb6 := hb6.keep k16 (fun hm => absurd (List.mem_singleton.1 hm) ne_b3_b6)
  replace hb7 := hb7.keep k16 (fun hm => absurd (List.mem_singleton.1 hm) ne_b4_b6)
  replace hb8 := hb8.keep k16 (fun hm => absurd (List.mem_singleton.1 hm) ne_b5_b6)
  replace hB := hB.new k16 (fun x hx => .inl ((List.mem_singleton.1 hx) ▸ ge_b6))
  clear z7
  replace hb10 : Bk w16 b6 _ [.int .u64 (hh4 0), .int .u64 (hh4 1), .int .u64 (hh4 2), .int .u64 (hh4 3), .int .u64 (hh4 4)] := hb10
  refine ow_nil ?_
  refine tw_keep [(2, _), (3, _), (4, _), (5, _), (6, _)] ⟨rfl, rfl, rfl, rfl, rfl, trivial⟩ ?_
  refine tw_seq ?_
  have gs2 := hB.size
  have lt3 := hb1.lt
  have lt4 := hb2.lt
  have lt5 := hb6.lt
  have lt6 := hb7.lt
  have lt7 := hb8.lt
  have lt8 := hb10.lt
  refine tw_planA 8 [0, 1, 3, 4, 2, 5] [2, 5] [] [(6, 28, [.int .u64 0, .int .u64 0, .int .u64 0, .int .u64 0, .int .u64 0]), (7, 28, [.int .u64 0, .int .u64 0, .int .u64 0, .int .u64 0, .int .u64 0])] mixed [(3, _), (4, _), (2, _), (5, _), (6, _)] ⟨rfl, rfl, rfl, rfl, rfl, trivial⟩ (by decide +kernel) (by decide) (by decide) ?_ (fun x hx => by cases hx) rfl (fun w17 k17 => ?_)
  · simp only [List.forall_mem_cons]; exact ⟨⟨_, _, _, _, _, _, rfl, ty28⟩, ⟨_, _, _, _, _, _, rfl, ty28⟩, fun q hq => by cases hq⟩
  replace hb1 := hb1.keep0 k17
  replace hb2 := hb2.keep0 k17
  replace hb6 := hb6.keep0 k17
  replace hb7 := hb7.keep0 k17
  replace hb8 := hb8.keep0 k17
  replace hb10 := hb10.keep0 k17
  replace hB := hB.trans k17
  refine pa_g [(3, _)] rfl rfl ⟨rfl, trivial⟩ rfl (fun W' kk => g_ldab (cs' := [_, _, _, _, _]) ag28 ty28 rfl (Bk.keep0 hb6 kk) rfl rfl) ?_
  refine pa_g [(4, _)] rfl rfl ⟨rfl, trivial⟩ rfl (fun W' kk => g_ldab (cs' := [_, _, _, _, _]) ag28 ty28 rfl (Bk.keep0 hb7 kk) rfl rfl) ?_
  refine pa_g [(3, _)] rfl rfl ⟨rfl, trivial⟩ rfl (fun W' kk => g_ldab (cs' := [_, _, _, _, _]) ag28 ty28 rfl (Bk.keep0 hb6 kk) rfl rfl) ?_
  refine pa_g [(4, _)] rfl rfl ⟨rfl, trivial⟩ rfl (fun W' kk => g_ldab (cs' := [_, _, _, _, _]) ag28 ty28 rfl (Bk.keep0 hb7 kk) rfl rfl) ?_
  refine pa_d [(31, _), (32, _)] rfl rfl ⟨rfl, rfl, trivial⟩ rfl (fun w19 k19 => ?_)
  replace hb1 := hb1.keep0 k19
  replace hb2 := hb2.keep0 k19
  replace hb6 := hb6.keep0 k19
  replace hb7 := hb7.keep0 k19
  replace hb8 := hb8.keep0 k19
  replace hb10 := hb10.keep0 k19
  replace hB := hB.trans k19
  refine (d_call (vs := [_, _]) rfl (nplus_any _ _ _ _ E1 E2 _)).mono ?_
  rintro _ w18 ⟨hh5, rfl, E5, k18⟩
  refine ⟨k18, (fun x hx => by have hx : x ∈ ([] : List Nat) := hx; cases hx), ?_⟩
  replace hb1 := hb1.keep0 k18
  replace hb2 := hb2.keep0 k18
  replace hb6 := hb6.keep0 k18
  replace hb7 := hb7.keep0 k18
  replace hb8 := hb8.keep0 k18
  replace hb10 := hb10.keep0 k18
  replace hB := hB.trans k18
  refine pa_d [(34, _), (35, _)] rfl rfl ⟨rfl, rfl, trivial⟩ rfl (fun w21 k21 => ?_)
  replace hb1 := hb1.keep0 k21
  replace hb2 := hb2.keep0 k21
  replace hb6 := hb6.keep0 k21
  replace hb7 := hb7.keep0 k21
  replace hb8 := hb8.keep0 k21
  replace hb10 := hb10.keep0 k21
  replace hB := hB.trans k21
  refine (d_call (vs := [_, _]) rfl (nminus_any _ _ _ _ E1 E2 _)).mono ?_
  rintro _ w20 ⟨hh6, rfl, E6, k20⟩
  refine ⟨k20, (fun x hx => by have hx : x ∈ ([] : List Nat) := hx; cases hx), ?_⟩
  replace hb1 := hb1.keep0 k20
  replace hb2 := hb2.keep0 k20
  replace hb6 := hb6.keep0 k20
  replace hb7 := hb7.keep0 k20
  replace hb8 := hb8.keep0 k20
  replace hb10 := hb10.keep0 k20
  replace hB := hB.trans k20
  refine pa_nil (fun w22 k22 => ?_)
  replace hb1 := hb1.keep0 k22
  replace hb2 := hb2.keep0 k22
  replace hb6 := hb6.keep0 k22
  replace hb7 := hb7.keep0 k22
  replace hb8 := hb8.keep0 k22
  replace hb10 := hb10.keep0 k22
  replace hB := hB.trans k22
  intro b7 eb7 lb4 hb11 ds4 sp4
  have ge_b7 : w.heap.size ≤ b7 := Nat.le_trans gs2 eb7
  have ne_b1_b7 : b1 ≠ b7 := Nat.ne_of_lt (Nat.lt_of_lt_of_le lt3 eb7)
  have ne_b2_b7 : b2 ≠ b7 := Nat.ne_of_lt (Nat.lt_of_lt_of_le lt4 eb7)
  have ne_b3_b7 : b3 ≠ b7 := Nat.ne_of_lt (Nat.lt_of_lt_of_le lt5 eb7)
  have ne_b4_b7 : b4 ≠ b7 := Nat.ne_of_lt (Nat.lt_of_lt_of_le lt6 eb7)
  have ne_b5_b7 : b5 ≠ b7 := Nat.ne_of_lt (Nat.lt_of_lt_of_le lt7 eb7)
  have ne_b6_b7 : b6 ≠ b7 := Nat.ne_of_lt (Nat.lt_of_lt_of_le lt8 eb7)
  intro b8 eb8 lb5 hb12 ds5 sp5
  have ge_b8 : w.heap.size ≤ b8 := Nat.le_trans gs2 eb8
  have ne_b1_b8 : b1 ≠ b8 := Nat.ne_of_lt (Nat.lt_of_lt_of_le lt3 eb8)
  have ne_b2_b8 : b2 ≠ b8 := Nat.ne_of_lt (Nat.lt_of_lt_of_le lt4 eb8)
  have ne_b3_b8 : b3 ≠ b8 := Nat.ne_of_lt (Nat.lt_of_lt_of_le lt5 eb8)
  have ne_b4_b8 : b4 ≠ b8 := Nat.ne_of_lt (Nat.lt_of_lt_of_le lt6 eb8)
  have ne_b5_b8 : b5 ≠ b8 := Nat.ne_of_lt (Nat.lt_of_lt_of_le lt7 eb8)
  have ne_b6_b8 : b6 ≠ b8 := Nat.ne_of_lt (Nat.lt_of_lt_of_le lt8 eb8)
  have ne4 := ds5 b7 (by simp)
  refine fina_nil ?_
  refine ow_d0 (d_sta ty28 rfl rfl rfl ivF_one hb11 rfl) ?_
  rintro _ w23 ⟨hb13, k23, z8⟩
  replace hb1 := hb1.keep k23 (fun hm => absurd (List.mem_singleton.1 hm) ne_b1_b7)
  replace hb2 := hb2.keep k23 (fun hm => absurd (List.mem_singleton.1 hm) ne_b2_b7)
  replace hb6 := hb6.keep k23 (fun hm => absurd (List.mem_singleton.1 hm) ne_b3_b7)
  replace hb7 := hb7.keep k23 (fun hm => absurd (List.mem_singleton.1 hm) ne_b4_b7)
  replace hb8 := hb8.keep k23 (fun hm => absurd (List.mem_singleton.1 hm) ne_b5_b7)
  replace hb10 := hb10.keep k23 (fun hm => absurd (List.mem_singleton.1 hm) ne_b6_b7)
  replace hb12 := hb12.keep k23 (fun hm => absurd (List.mem_singleton.1 hm) (Ne.symm ne4))
  replace hB := hB.new k23 (fun x hx => .inl ((List.mem_singleton.1 hx) ▸ ge_b7))
  clear z8
  replace hb13 : Bk w23 b7 _ [.int .u64 (hh5 0), .int .u64 (hh5 1), .int .u64 (hh5 2), .int .u64 (hh5 3), .int .u64 (hh5 4)] := hb13
  refine ow_d0 (d_sta ty28 rfl rfl rfl ivF_one hb12 rfl) ?_
  rintro _ w24 ⟨hb14, k24, z9⟩
  replace hb1 := hb1.keep k24 (fun hm => absurd (List.mem_singleton.1 hm) ne_b1_b8)
  replace hb2 := hb2.keep k24 (fun hm => absurd (List.mem_singleton.1 hm) ne_b2_b8)
  replace hb6 := hb6.keep k24 (fun hm => absurd (List.mem_singleton.1 hm) ne_b3_b8)
  replace hb7 := hb7.keep k24 (fun hm => absurd (List.mem_singleton.1 hm) ne_b4_b8)
  replace hb8 := hb8.keep k24 (fun hm => absurd (List.mem_singleton.1 hm) ne_b5_b8)
  replace hb10 := hb10.keep k24 (fun hm => absurd (List.mem_singleton.1 hm) ne_b6_b8)
  replace hb13 := hb13.keep k24 (fun hm => absurd (List.mem_singleton.1 hm) ne4)
  replace hB := hB.new k24 (fun x hx => .inl ((List.mem_singleton.1 hx) ▸ ge_b8))
  clear z9
  replace hb14 : Bk w24 b8 _ [.int .u64 (hh6 0), .int .u64 (hh6 1), .int .u64 (hh6 2), .int .u64 (hh6 3), .int .u64 (hh6 4)] := hb14
  refine ow_nil ?_
  refine tw_keep [(2, _), (5, _), (6, _), (7, _), (8, _)] ⟨rfl, rfl, rfl, rfl, rfl, trivial⟩ ?_
  refine tw_seq ?_
  have gs3 := hB.size
  have lt9 := hb1.lt
  have lt10 := hb2.lt
  have lt11 := hb6.lt
  have lt12 := hb7.lt
  have lt13 := hb8.lt
  have lt14 := hb10.lt
  have lt15 := hb13.lt
  have lt16 := hb14.lt
  refine tw_planA 12 [0, 1, 2, 5, 6, 8, 3, 4, 7, 9] [3, 4, 7, 9] [] [(10, 28, [.int .u64 0, .int .u64 0, .int .u64 0, .int .u64 0, .int .u64 0]), (11, 28, [.int .u64 0, .int .u64 0, .int .u64 0, .int .u64 0, .int .u64 0])] mixed [(7, _), (6, _), (5, _), (8, _), (2, _)] ⟨rfl, rfl, rfl, rfl, rfl, trivial⟩ (by decide +kernel) (by decide) (by decide) ?_ (fun x hx => by cases hx) rfl (fun w25 k25 => ?_)
  · simp only [List.forall_mem_cons]; exact ⟨⟨_, _, _, _, _, _, rfl, ty28⟩, ⟨_, _, _, _, _, _, rfl, ty28⟩, fun q hq => by cases hq⟩
  replace hb1 := hb1.keep0 k25
  replace hb2 := hb2.keep0 k25
  replace hb6 := hb6.keep0 k25
  replace hb7 := hb7.keep0 k25
  replace hb8 := hb8.keep0 k25
  replace hb10 := hb10.keep0 k25
  replace hb13 := hb13.keep0 k25
  replace hb14 := hb14.keep0 k25
  replace hB := hB.trans k25
  refine pa_g [(7, _)] rfl rfl ⟨rfl, trivial⟩ rfl (fun W' kk => g_ldab (cs' := [_, _, _, _, _]) ag28 ty28 rfl (Bk.keep0 hb13 kk) rfl rfl) ?_
  refine pa_g [(6, _)] rfl rfl ⟨rfl, trivial⟩ rfl (fun W' kk => g_ldab (cs' := [_, _, _, _, _]) ag28 ty28 rfl (Bk.keep0 hb10 kk) rfl rfl) ?_
  refine pa_g [(6, _)] rfl rfl ⟨rfl, trivial⟩ rfl (fun W' kk => g_ldab (cs' := [_, _, _, _, _]) ag28 ty28 rfl (Bk.keep0 hb10 kk) rfl rfl) ?_
  refine pa_g [(5, _)] rfl rfl ⟨rfl, trivial⟩ rfl (fun W' kk => g_ldab (cs' := [_, _, _, _, _]) ag28 ty28 rfl (Bk.keep0 hb8 kk) rfl rfl) ?_
  refine pa_g [(5, _)] rfl rfl ⟨rfl, trivial⟩ rfl (fun W' kk => g_ldab (cs' := [_, _, _, _, _]) ag28 ty28 rfl (Bk.keep0 hb8 kk) rfl rfl) ?_
  refine pa_g [(8, _)] rfl rfl ⟨rfl, trivial⟩ rfl (fun W' kk => g_ldab (cs' := [_, _, _, _, _]) ag28 ty28 rfl (Bk.keep0 hb14 kk) rfl rfl) ?_
  refine pa_d [(38, _), (39, _)] rfl rfl ⟨rfl, rfl, trivial⟩ rfl (fun w27 k27 => ?_)
  replace hb1 := hb1.keep0 k27
  replace hb2 := hb2.keep0 k27
  replace hb6 := hb6.keep0 k27
  replace hb7 := hb7.keep0 k27
  replace hb8 := hb8.keep0 k27
  replace hb10 := hb10.keep0 k27
  replace hb13 := hb13.keep0 k27
  replace hb14 := hb14.keep0 k27
  replace hB := hB.trans k27
  refine (d_call (vs := [_, _]) rfl (ntimes_any _ _ _ _ E4 E4 _)).mono ?_
  rintro _ w26 ⟨hh7, rfl, E7, k26⟩
  refine ⟨k26, (fun x hx => by have hx : x ∈ ([] : List Nat) := hx; cases hx), ?_⟩
  replace hb1 := hb1.keep0 k26
  replace hb2 := hb2.keep0 k26
  replace hb6 := hb6.keep0 k26
  replace hb7 := hb7.keep0 k26
  replace hb8 := hb8.keep0 k26
  replace hb10 := hb10.keep0 k26
  replace hb13 := hb13.keep0 k26
  replace hb14 := hb14.keep0 k26
  replace hB := hB.trans k26
  refine pa_d [(37, _), (40, _)] rfl rfl ⟨rfl, rfl, trivial⟩ rfl (fun w29 k29 => ?_)
  replace hb1 := hb1.keep0 k29
  replace hb2 := hb2.keep0 k29
  replace hb6 := hb6.keep0 k29
  replace hb7 := hb7.keep0 k29
  replace hb8 := hb8.keep0 k29
  replace hb10 := hb10.keep0 k29
  replace hb13 := hb13.keep0 k29
  replace hb14 := hb14.keep0 k29
  replace hB := hB.trans k29
  refine (d_call (vs := [_, _]) rfl (nminus_any _ _ _ _ E5 E7 _)).mono ?_
  rintro _ w28 ⟨hh8, rfl, E8, k28⟩
  refine ⟨k28, (fun x hx => by have hx : x ∈ ([] : List Nat) := hx; cases hx), ?_⟩
  replace hb1 := hb1.keep0 k28
  replace hb2 := hb2.keep0 k28
  replace hb6 := hb6.keep0 k28
  replace hb7 := hb7.keep0 k28
  replace hb8 := hb8.keep0 k28
  replace hb10 := hb10.keep0 k28
  replace hb13 := hb13.keep0 k28
  replace hb14 := hb14.keep0 k28
  replace hB := hB.trans k28
  refine pa_d [(42, _), (43, _)] rfl rfl ⟨rfl, rfl, trivial⟩ rfl (fun w31 k31 => ?_)
  replace hb1 := hb1.keep0 k31
  replace hb2 := hb2.keep0 k31
  replace hb6 := hb6.keep0 k31
  replace hb7 := hb7.keep0 k31
  replace hb8 := hb8.keep0 k31
  replace hb10 := hb10.keep0 k31
  replace hb13 := hb13.keep0 k31
  replace hb14 := hb14.keep0 k31
  replace hB := hB.trans k31
  refine (d_call (vs := [_, _]) rfl (nplus_any _ _ _ _ E3 E3 _)).mono ?_
  rintro _ w30 ⟨hh9, rfl, E9, k30⟩
  refine ⟨k30, (fun x hx => by have hx : x ∈ ([] : List Nat) := hx; cases hx), ?_⟩
  replace hb1 := hb1.keep0 k30
  replace hb2 := hb2.keep0 k30
  replace hb6 := hb6.keep0 k30
  replace hb7 := hb7.keep0 k30
  replace hb8 := hb8.keep0 k30
  replace hb10 := hb10.keep0 k30
  replace hb13 := hb13.keep0 k30
  replace hb14 := hb14.keep0 k30
  replace hB := hB.trans k30
  refine pa_d [(44, _), (45, _)] rfl rfl ⟨rfl, rfl, trivial⟩ rfl (fun w33 k33 => ?_)
  replace hb1 := hb1.keep0 k33
  replace hb2 := hb2.keep0 k33
  replace hb6 := hb6.keep0 k33
  replace hb7 := hb7.keep0 k33
  replace hb8 := hb8.keep0 k33
  replace hb10 := hb10.keep0 k33
  replace hb13 := hb13.keep0 k33
  replace hb14 := hb14.keep0 k33
  replace hB := hB.trans k33
  refine (d_call (vs := [_, _]) rfl (nplus_any _ _ _ _ E9 E6 _)).mono ?_
  rintro _ w32 ⟨hh10, rfl, E10, k32⟩
  refine ⟨k32, (fun x hx => by have hx : x ∈ ([] : List Nat) := hx; cases hx), ?_⟩
  replace hb1 := hb1.keep0 k32
  replace hb2 := hb2.keep0 k32
  replace hb6 := hb6.keep0 k32
  replace hb7 := hb7.keep0 k32
  replace hb8 := hb8.keep0 k32
  replace hb10 := hb10.keep0 k32
  replace hb13 := hb13.keep0 k32
  replace hb14 := hb14.keep0 k32
  replace hB := hB.trans k32
  refine pa_nil (fun w34 k34 => ?_)
  replace hb1 := hb1.keep0 k34
  replace hb2 := hb2.keep0 k34
  replace hb6 := hb6.keep0 k34
  replace hb7 := hb7.keep0 k34
  replace hb8 := hb8.keep0 k34
  replace hb10 := hb10.keep0 k34
  replace hb13 := hb13.keep0 k34
  replace hb14 := hb14.keep0 k34
  replace hB := hB.trans k34
  intro b9 eb9 lb6 hb15 ds6 sp6
  have ge_b9 : w.heap.size ≤ b9 := Nat.le_trans gs3 eb9
  have ne_b1_b9 : b1 ≠ b9 := Nat.ne_of_lt (Nat.lt_of_lt_of_le lt9 eb9)
  have ne_b2_b9 : b2 ≠ b9 := Nat.ne_of_lt (Nat.lt_of_lt_of_le lt10 eb9)
  have ne_b3_b9 : b3 ≠ b9 := Nat.ne_of_lt (Nat.lt_of_lt_of_le lt11 eb9)
  have ne_b4_b9 : b4 ≠ b9 := Nat.ne_of_lt (Nat.lt_of_lt_of_le lt12 eb9)
  have ne_b5_b9 : b5 ≠ b9 := Nat.ne_of_lt (Nat.lt_of_lt_of_le lt13 eb9)
  have ne_b6_b9 : b6 ≠ b9 := Nat.ne_of_lt (Nat.lt_of_lt_of_le lt14 eb9)
  have ne_b7_b9 : b7 ≠ b9 := Nat.ne_of_lt (Nat.lt_of_lt_of_le lt15 eb9)
  have ne_b8_b9 : b8 ≠ b9 := Nat.ne_of_lt (Nat.lt_of_lt_of_le lt16 eb9)
  intro b10 eb10 lb7 hb16 ds7 sp7
  have ge_b10 : w.heap.size ≤ b10 := Nat.le_trans gs3 eb10
  have ne_b1_b10 : b1 ≠ b10 := Nat.ne_of_lt (Nat.lt_of_lt_of_le lt9 eb10)
  have ne_b2_b10 : b2 ≠ b10 := Nat.ne_of_lt (Nat.lt_of_lt_of_le lt10 eb10)
  have ne_b3_b10 : b3 ≠ b10 := Nat.ne_of_lt (Nat.lt_of_lt_of_le lt11 eb10)
  have ne_b4_b10 : b4 ≠ b10 := Nat.ne_of_lt (Nat.lt_of_lt_of_le lt12 eb10)
  have ne_b5_b10 : b5 ≠ b10 := Nat.ne_of_lt (Nat.lt_of_lt_of_le lt13 eb10)
  have ne_b6_b10 : b6 ≠ b10 := Nat.ne_of_lt (Nat.lt_of_lt_of_le lt14 eb10)
  have ne_b7_b10 : b7 ≠ b10 := Nat.ne_of_lt (Nat.lt_of_lt_of_le lt15 eb10)
  have ne_b8_b10 : b8 ≠ b10 := Nat.ne_of_lt (Nat.lt_of_lt_of_le lt16 eb10)
  have ne5 := ds7 b9 (by simp)
  refine fina_nil ?_
  refine ow_d0 (d_sta ty28 rfl rfl rfl ivF_one hb15 rfl) ?_
  rintro _ w35 ⟨hb17, k35, z10⟩
  replace hb1 := hb1.keep k35 (fun hm => absurd (List.mem_singleton.1 hm) ne_b1_b9)
  replace hb2 := hb2.keep k35 (fun hm => absurd (List.mem_singleton.1 hm) ne_b2_b9)
  replace hb6 := hb6.keep k35 (fun hm => absurd (List.mem_singleton.1 hm) ne_b3_b9)
  replace hb7 := hb7.keep k35 (fun hm => absurd (List.mem_singleton.1 hm) ne_b4_b9)
  replace hb8 := hb8.keep k35 (fun hm => absurd (List.mem_singleton.1 hm) ne_b5_b9)
  replace hb10 := hb10.keep k35 (fun hm => absurd (List.mem_singleton.1 hm) ne_b6_b9)
  replace hb13 := hb13.keep k35 (fun hm => absurd (List.mem_singleton.1 hm) ne_b7_b9)
  replace hb14 := hb14.keep k35 (fun hm => absurd (List.mem_singleton.1 hm) ne_b8_b9)
  replace hb16 := hb16.keep k35 (fun hm => absurd (List.mem_singleton.1 hm) (Ne.symm ne5))
  replace hB := hB.new k35 (fun x hx => .inl ((List.mem_singleton.1 hx) ▸ ge_b9))
  clear z10
  replace hb17 : Bk w35 b9 _ [.int .u64 (hh8 0), .int .u64 (hh8 1), .int .u64 (hh8 2), .int .u64 (hh8 3), .int .u64 (hh8 4)] := hb17
  refine ow_d0 (d_sta ty28 rfl rfl rfl ivF_one hb16 rfl) ?_
  rintro _ w36 ⟨hb18, k36, z11⟩
  replace hb1 := hb1.keep k36 (fun hm => absurd (List.mem_singleton.1 hm) ne_b1_b10)
  replace hb2 := hb2.keep k36 (fun hm => absurd (List.mem_singleton.1 hm) ne_b2_b10)
  replace hb6 := hb6.keep k36 (fun hm => absurd (List.mem_singleton.1 hm) ne_b3_b10)
  replace hb7 := hb7.keep k36 (fun hm => absurd (List.mem_singleton.1 hm) ne_b4_b10)
  replace hb8 := hb8.keep k36 (fun hm => absurd (List.mem_singleton.1 hm) ne_b5_b10)
  replace hb10 := hb10.keep k36 (fun hm => absurd (List.mem_singleton.1 hm) ne_b6_b10)
  replace hb13 := hb13.keep k36 (fun hm => absurd (List.mem_singleton.1 hm) ne_b7_b10)
  replace hb14 := hb14.keep k36 (fun hm => absurd (List.mem_singleton.1 hm) ne_b8_b10)
  replace hb17 := hb17.keep k36 (fun hm => absurd (List.mem_singleton.1 hm) ne5)
  replace hB := hB.new k36 (fun x hx => .inl ((List.mem_singleton.1 hx) ▸ ge_b10))
  clear z11
  replace hb18 : Bk w36 b10 _ [.int .u64 (hh10 0), .int .u64 (hh10 1), .int .u64 (hh10 2), .int .u64 (hh10 3), .int .u64 (hh10 4)] := hb18
  refine ow_nil ?_
  refine tw_keep [(7, _), (8, _), (2, _), (9, _), (10, _)] ⟨rfl, rfl, rfl, rfl, rfl, trivial⟩ ?_
  refine tw_seq ?_
  refine tw_plan 13 [0, 1, 3, 4, 6, 7, 9, 10, 2, 5, 8, 11, 12] [2, 5, 8, 11] [] mixed [(9, _), (10, _), (8, _), (7, _), (2, _)] ⟨rfl, rfl, rfl, rfl, rfl, trivial⟩ (by decide +kernel) rfl (fun w37 k37 => ?_)
  replace hb1 := hb1.keep0 k37
  replace hb2 := hb2.keep0 k37
  replace hb6 := hb6.keep0 k37
  replace hb7 := hb7.keep0 k37
  replace hb8 := hb8.keep0 k37
  replace hb10 := hb10.keep0 k37
  replace hb13 := hb13.keep0 k37
  replace hb14 := hb14.keep0 k37
  replace hb17 := hb17.keep0 k37
  replace hb18 := hb18.keep0 k37
  replace hB := hB.trans k37
  refine pw_g [(9, _)] rfl rfl ⟨rfl, trivial⟩ rfl (fun W' kk => g_ldab (cs' := [_, _, _, _, _]) ag28 ty28 rfl (Bk.keep0 hb17 kk) rfl rfl) ?_
  refine pw_g [(10, _)] rfl rfl ⟨rfl, trivial⟩ rfl (fun W' kk => g_ldab (cs' := [_, _, _, _, _]) ag28 ty28 rfl (Bk.keep0 hb18 kk) rfl rfl) ?_
  refine pw_g [(8, _)] rfl rfl ⟨rfl, trivial⟩ rfl (fun W' kk => g_ldab (cs' := [_, _, _, _, _]) ag28 ty28 rfl (Bk.keep0 hb14 kk) rfl rfl) ?_
  refine pw_g [(7, _)] rfl rfl ⟨rfl, trivial⟩ rfl (fun W' kk => g_ldab (cs' := [_, _, _, _, _]) ag28 ty28 rfl (Bk.keep0 hb13 kk) rfl rfl) ?_
  refine pw_g [(10, _)] rfl rfl ⟨rfl, trivial⟩ rfl (fun W' kk => g_ldab (cs' := [_, _, _, _, _]) ag28 ty28 rfl (Bk.keep0 hb18 kk) rfl rfl) ?_
  refine pw_g [(8, _)] rfl rfl ⟨rfl, trivial⟩ rfl (fun W' kk => g_ldab (cs' := [_, _, _, _, _]) ag28 ty28 rfl (Bk.keep0 hb14 kk) rfl rfl) ?_
  refine pw_g [(9, _)] rfl rfl ⟨rfl, trivial⟩ rfl (fun W' kk => g_ldab (cs' := [_, _, _, _, _]) ag28 ty28 rfl (Bk.keep0 hb17 kk) rfl rfl) ?_
  refine pw_g [(7, _)] rfl rfl ⟨rfl, trivial⟩ rfl (fun W' kk => g_ldab (cs' := [_, _, _, _, _]) ag28 ty28 rfl (Bk.keep0 hb13 kk) rfl rfl) ?_
  refine pw_d [(47, _), (48, _)] rfl rfl ⟨rfl, rfl, trivial⟩ rfl (d_call (vs := [_, _]) rfl (ntimes_any _ _ _ _ E8 E10 _)) ?_
  rintro _ w38 ⟨hh11, rfl, E11, k38⟩
  refine ⟨k38, ?_⟩
  replace hb1 := hb1.keep0 k38
  replace hb2 := hb2.keep0 k38
  replace hb6 := hb6.keep0 k38
  replace hb7 := hb7.keep0 k38
  replace hb8 := hb8.keep0 k38
  replace hb10 := hb10.keep0 k38
  replace hb13 := hb13.keep0 k38
  replace hb14 := hb14.keep0 k38
  replace hb17 := hb17.keep0 k38
  replace hb18 := hb18.keep0 k38
  replace hB := hB.trans k38
  refine pw_d [(50, _), (51, _)] rfl rfl ⟨rfl, rfl, trivial⟩ rfl (d_call (vs := [_, _]) rfl (ntimes_any _ _ _ _ E6 E5 _)) ?_
  rintro _ w39 ⟨hh12, rfl, E12, k39⟩
  refine ⟨k39, ?_⟩
  replace hb1 := hb1.keep0 k39
  replace hb2 := hb2.keep0 k39
  replace hb6 := hb6.keep0 k39
  replace hb7 := hb7.keep0 k39
  replace hb8 := hb8.keep0 k39
  replace hb10 := hb10.keep0 k39
  replace hb13 := hb13.keep0 k39
  replace hb14 := hb14.keep0 k39
  replace hb17 := hb17.keep0 k39
  replace hb18 := hb18.keep0 k39
  replace hB := hB.trans k39
  refine pw_d [(53, _), (54, _)] rfl rfl ⟨rfl, rfl, trivial⟩ rfl (d_call (vs := [_, _]) rfl (ntimes_any _ _ _ _ E10 E6 _)) ?_
  rintro _ w40 ⟨hh13, rfl, E13, k40⟩
  refine ⟨k40, ?_⟩
  replace hb1 := hb1.keep0 k40
  replace hb2 := hb2.keep0 k40
  replace hb6 := hb6.keep0 k40
  replace hb7 := hb7.keep0 k40
  replace hb8 := hb8.keep0 k40
  replace hb10 := hb10.keep0 k40
  replace hb13 := hb13.keep0 k40
  replace hb14 := hb14.keep0 k40
  replace hb17 := hb17.keep0 k40
  replace hb18 := hb18.keep0 k40
  replace hB := hB.trans k40
  refine pw_d [(56, _), (57, _)] rfl rfl ⟨rfl, rfl, trivial⟩ rfl (d_call (vs := [_, _]) rfl (ntimes_any _ _ _ _ E8 E5 _)) ?_
  rintro _ w41 ⟨hh14, rfl, E14, k41⟩
  refine ⟨k41, ?_⟩
  replace hb1 := hb1.keep0 k41
  replace hb2 := hb2.keep0 k41
  replace hb6 := hb6.keep0 k41
  replace hb7 := hb7.keep0 k41
  replace hb8 := hb8.keep0 k41
  replace hb10 := hb10.keep0 k41
  replace hb13 := hb13.keep0 k41
  replace hb14 := hb14.keep0 k41
  replace hb17 := hb17.keep0 k41
  replace hb18 := hb18.keep0 k41
  replace hB := hB.trans k41
  refine pw_g [(49, _), (52, _), (55, _), (58, _)] rfl rfl ⟨rfl, rfl, rfl, rfl, trivial⟩ rfl (fun W' kk => g_bld (idx := [0, 1, 2, 3]) (xs := [.tmp 49, .tmp 52, .tmp 55, .tmp 58]) (vs := [_, _, _, _]) (css := [[_, _, _, _, _], [_, _, _, _, _], [_, _, _, _, _], [_, _, _, _, _]]) (out := [_, _, _, _, _, _, _, _, _, _, _, _, _, _, _, _, _, _, _, _]) pl30 ty30 rfl rfl ⟨rfl, rfl, rfl, rfl, trivial⟩ rfl rfl) ?_
  refine pw_nil ?_
  refine ow_d0 (d_sta ty30 rfl rfl rfl (by simp only [List.forall_mem_cons]; refine ⟨rfl, rfl, rfl, rfl, rfl, rfl, rfl, rfl, rfl, rfl, rfl, rfl, rfl, rfl, rfl, rfl, rfl, rfl, rfl, rfl, fun v hv => by cases hv⟩) hb2 rfl) ?_
  rintro _ w42 ⟨hb19, k42, z12⟩
  replace hb1 := hb1.keep k42 (fun hm => absurd (List.mem_singleton.1 hm) ne_b1_b2)
  replace hb6 := hb6.keep k42 (fun hm => absurd (List.mem_singleton.1 hm) (Ne.symm ne_b2_b3))
  replace hb7 := hb7.keep k42 (fun hm => absurd (List.mem_singleton.1 hm) (Ne.symm ne_b2_b4))
  replace hb8 := hb8.keep k42 (fun hm => absurd (List.mem_singleton.1 hm) (Ne.symm ne_b2_b5))
  replace hb10 := hb10.keep k42 (fun hm => absurd (List.mem_singleton.1 hm) (Ne.symm ne_b2_b6))
  replace hb13 := hb13.keep k42 (fun hm => absurd (List.mem_singleton.1 hm) (Ne.symm ne_b2_b7))
  replace hb14 := hb14.keep k42 (fun hm => absurd (List.mem_singleton.1 hm) (Ne.symm ne_b2_b8))
  replace hb17 := hb17.keep k42 (fun hm => absurd (List.mem_singleton.1 hm) (Ne.symm ne_b2_b9))
  replace hb18 := hb18.keep k42 (fun hm => absurd (List.mem_singleton.1 hm) (Ne.symm ne_b2_b10))
  replace hB := hB.new k42 (fun x hx => .inl ((List.mem_singleton.1 hx) ▸ ge_b2))
  clear z12
  replace hb19 : Bk w42 b2 _ [.int .u64 (hh11 0), .int .u64 (hh11 1), .int .u64 (hh11 2), .int .u64 (hh11 3), .int .u64 (hh11 4), .int .u64 (hh12 0), .int .u64 (hh12 1), .int .u64 (hh12 2), .int .u64 (hh12 3), .int .u64 (hh12 4), .int .u64 (hh13 0), .int .u64 (hh13 1), .int .u64 (hh13 2), .int .u64 (hh13 3), .int .u64 (hh13 4), .int .u64 (hh14 0), .int .u64 (hh14 1), .int .u64 (hh14 2), .int .u64 (hh14 3), .int .u64 (hh14 4)] := hb19
  refine ow_nil ?_
  refine tw_keep [(2, _)] ⟨rfl, trivial⟩ ?_
  refine tw_retc hfin Try.results59 rfl (run_loadAgg ag30 ty30 (by assumption) rfl)  ?_
  exact ⟨(vecN [(hh11 0), (hh11 1), (hh11 2), (hh11 3), (hh11 4), (hh12 0), (hh12 1), (hh12 2), (hh12 3), (hh12 4), (hh13 0), (hh13 1), (hh13 2), (hh13 3), (hh13 4), (hh14 0), (hh14 1), (hh14 2), (hh14 3), (hh14 4)]), rfl, ⟨E11, E12, E13, E14⟩, hB⟩

end Go.Proofs.Ytkngeapegpehpaa.W
