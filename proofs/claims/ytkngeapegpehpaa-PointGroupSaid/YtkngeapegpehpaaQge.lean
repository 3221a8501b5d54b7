/- Contracts and laws, part 5 of 6: what each function of the program and of the reference computes, shown once. -/
import Derived.Test.YtkngeapegpehpaaQgd
namespace Go.Proofs.Ytkngeapegpehpaa.W
open Go Go.Eng Go.Byt
set_option linter.unusedVariables false
set_option linter.unusedSimpArgs false
open Go.Fld Go.Ed
def PtEl (p : Nat → Int) (X Y Z T : Fp) : Prop := El p X ∧ El (vecN [(p 5), (p 6), (p 7), (p 8), (p 9)]) Y ∧ El (vecN [(p 10), (p 11), (p 12), (p 13), (p 14)]) Z ∧ El (vecN [(p 15), (p 16), (p 17), (p 18), (p 19)]) T
set_option maxRecDepth 100000 in
set_option maxHeartbeats 1000000 in
theorem affine_any (f g : Nat → Int) (a b : Fp) (hf : El f a) (hg : El g b) (w : World) : Rets Try.prog 43 [.agg (iv .u64 5 f).toArray, .agg (iv .u64 5 g).toArray] w (fun v w' => ∃ p, v = .agg (iv .u64 20 p).toArray ∧ PtEl p a b (fp 1) (a * b) ∧ Keep [] w w') := by
 have hB : Keep [] w w := Keep.refl _ _
 refine rets_of_tw Try.func43 rfl (by decide) Try.ntmps43 rfl (fun fin _ hfin => ?_)
 refine tw_seq (tw_region (ow_d (d_box (cs := [.int .u64 (f 0), .int .u64 (f 1), .int .u64 (f 2), .int .u64 (f 3), .int .u64 (f 4)]) rfl rfl) rfl ?_))
 rintro _ w1 ⟨b1, rfl, eb1, hb1, k1, z1⟩
 have ge_b1 : w.heap.size ≤ b1 := by have := hB.size; omega
 replace hB := hB.trans k1
 clear eb1 z1
 refine ow_d (d_box (cs := [.int .u64 (g 0), .int .u64 (g 1), .int .u64 (g 2), .int .u64 (g 3), .int .u64 (g 4)]) rfl rfl) rfl ?_
 rintro _ w2 ⟨b2, rfl, eb2, hb2, k2, z2⟩
 have ge_b2 : w.heap.size ≤ b2 := by have := hB.size; omega
 have ne_b1_b2 : b1 ≠ b2 := by have := hb1.lt; omega
 replace hb1 := hb1.keep0 k2
 replace hB := hB.trans k2
 clear eb2 z2
 refine ow_d (d_alloc ty30) rfl ?_
 rintro _ w3 ⟨b3, rfl, eb3, hb3, k3, z3⟩
 have ge_b3 : w.heap.size ≤ b3 := by have := hB.size; omega
 have ne_b1_b3 : b1 ≠ b3 := by have := hb1.lt; omega
 have ne_b2_b3 : b2 ≠ b3 := by have := hb2.lt; omega
 replace hb1 := hb1.keep0 k3
 replace hb2 := hb2.keep0 k3
 replace hB := hB.trans k3
 clear eb3 z3
 refine ow_nil (tw_seq (tw_plan 7 [0, 1, 3, 4, 2, 5, 6] [2, 5] [] mixed [(2, _), (3, _), (4, _)] ⟨rfl, rfl, rfl, trivial⟩ (by decide +kernel) rfl (fun w4 k4 => ?_)))
 replace hb1 := hb1.keep0 k4
 replace hb2 := hb2.keep0 k4
 replace hb3 := hb3.keep0 k4
 replace hB := hB.trans k4
 refine pw_g [(2, _)] rfl rfl ⟨rfl, trivial⟩ rfl (fun W' kk => g_ldab (cs' := [_, _, _, _, _]) ag28 ty28 rfl (Bk.keep0 hb1 kk) rfl rfl) ?_
 refine pw_g [(3, _)] rfl rfl ⟨rfl, trivial⟩ rfl (fun W' kk => g_ldab (cs' := [_, _, _, _, _]) ag28 ty28 rfl (Bk.keep0 hb2 kk) rfl rfl) ?_
 refine pw_g [(2, _)] rfl rfl ⟨rfl, trivial⟩ rfl (fun W' kk => g_ldab (cs' := [_, _, _, _, _]) ag28 ty28 rfl (Bk.keep0 hb1 kk) rfl rfl) ?_
 refine pw_g [(3, _)] rfl rfl ⟨rfl, trivial⟩ rfl (fun W' kk => g_ldab (cs' := [_, _, _, _, _]) ag28 ty28 rfl (Bk.keep0 hb2 kk) rfl rfl) ?_
 refine pw_d [] rfl rfl trivial rfl (d_call (vs := [_]) rfl (Small_any _ (by decide) _)) ?_
 rintro _ w5 ⟨hh1, rfl, E1, k5⟩
 refine ⟨k5, ?_⟩
 replace hb1 := hb1.keep0 k5
 replace hb2 := hb2.keep0 k5
 replace hb3 := hb3.keep0 k5
 replace hB := hB.trans k5
 refine pw_d [(8, _), (9, _)] rfl rfl ⟨rfl, rfl, trivial⟩ rfl (d_call (vs := [_, _]) rfl (ntimes_any _ _ _ _ hf hg _)) ?_
 rintro _ w6 ⟨hh2, rfl, E2, k6⟩
 refine ⟨k6, ?_⟩
 replace hb1 := hb1.keep0 k6
 replace hb2 := hb2.keep0 k6
 replace hb3 := hb3.keep0 k6
 replace hB := hB.trans k6
 refine pw_g [(5, _), (6, _), (7, _), (10, _)] rfl rfl ⟨rfl, rfl, rfl, rfl, trivial⟩ rfl (fun W' kk => g_bld (idx := [0, 1, 2, 3]) (xs := [.tmp 5, .tmp 6, .tmp 7, .tmp 10]) (vs := [_, _, _, _]) (css := [[_, _, _, _, _], [_, _, _, _, _], [_, _, _, _, _], [_, _, _, _, _]]) (out := [_, _, _, _, _, _, _, _, _, _, _, _, _, _, _, _, _, _, _, _]) pl30 ty30 rfl rfl ⟨rfl, rfl, rfl, rfl, trivial⟩ rfl rfl) ?_
 refine pw_nil ?_
 refine ow_d0 (d_sta ty30 rfl rfl rfl (by simp only [List.forall_mem_cons]; refine ⟨rfl, rfl, rfl, rfl, rfl, rfl, rfl, rfl, rfl, rfl, rfl, rfl, rfl, rfl, rfl, rfl, rfl, rfl, rfl, rfl, fun v hv => by cases hv⟩) hb3 rfl) ?_
 rintro _ w7 ⟨hb4, k7, z4⟩
 replace hb1 := hb1.keep k7 (fun hm => absurd (List.mem_singleton.1 hm) ne_b1_b3)
 replace hb2 := hb2.keep k7 (fun hm => absurd (List.mem_singleton.1 hm) ne_b2_b3)
 replace hB := hB.new k7 (fun x hx => .inl ((List.mem_singleton.1 hx) ▸ ge_b3))
 clear z4
 replace hb4 : Bk w7 b3 _ [.int .u64 (f 0), .int .u64 (f 1), .int .u64 (f 2), .int .u64 (f 3), .int .u64 (f 4), .int .u64 (g 0), .int .u64 (g 1), .int .u64 (g 2), .int .u64 (g 3), .int .u64 (g 4), .int .u64 (hh1 0), .int .u64 (hh1 1), .int .u64 (hh1 2), .int .u64 (hh1 3), .int .u64 (hh1 4), .int .u64 (hh2 0), .int .u64 (hh2 1), .int .u64 (hh2 2), .int .u64 (hh2 3), .int .u64 (hh2 4)] := hb4
 refine ow_nil (tw_retc hfin Try.results43 rfl (run_loadAgg ag30 ty30 ‹_› rfl)  ?_)
 exact ⟨(vecN [(f 0), (f 1), (f 2), (f 3), (f 4), (g 0), (g 1), (g 2), (g 3), (g 4), (hh1 0), (hh1 1), (hh1 2), (hh1 3), (hh1 4), (hh2 0), (hh2 1), (hh2 2), (hh2 3), (hh2 4)]), rfl, ⟨hf, hg, E1, E2⟩, hB⟩
set_option maxRecDepth 100000 in
set_option maxHeartbeats 1000000 in
theorem pplus_any (p q f : Nat → Int) (X1 Y1 Z1 T1 X2 Y2 Z2 T2 a : Fp) (hp : PtEl p X1 Y1 Z1 T1) (hq : PtEl q X2 Y2 Z2 T2) (hf : El f a) (w : World) : Rets Try.prog 58 [.agg (iv .u64 20 p).toArray, .agg (iv .u64 20 q).toArray, .agg (iv .u64 5 f).toArray] w (fun v w' => ∃ r, v = .agg (iv .u64 20 r).toArray ∧ PtEl r (((X1 + Y1) * (X2 + Y2) - X1 * X2 - Y1 * Y2) * (Z1 * Z2 - T1 * T2 * a)) ((Z1 * Z2 + T1 * T2 * a) * (Y1 * Y2 + X1 * X2)) ((Z1 * Z2 - T1 * T2 * a) * (Z1 * Z2 + T1 * T2 * a)) (((X1 + Y1) * (X2 + Y2) - X1 * X2 - Y1 * Y2) * (Y1 * Y2 + X1 * X2)) ∧ Keep [] w w') := by
 have hB : Keep [] w w := Keep.refl _ _
 refine rets_of_tw Try.func58 rfl (by decide) Try.ntmps58 rfl (fun fin _ hfin => ?_)
 refine tw_seq (tw_region (ow_d (d_box (cs := [.int .u64 (p 0), .int .u64 (p 1), .int .u64 (p 2), .int .u64 (p 3), .int .u64 (p 4), .int .u64 (p 5), .int .u64 (p 6), .int .u64 (p 7), .int .u64 (p 8), .int .u64 (p 9), .int .u64 (p 10), .int .u64 (p 11), .int .u64 (p 12), .int .u64 (p 13), .int .u64 (p 14), .int .u64 (p 15), .int .u64 (p 16), .int .u64 (p 17), .int .u64 (p 18), .int .u64 (p 19)]) rfl rfl) rfl ?_))
 rintro _ w1 ⟨b1, rfl, eb1, hb1, k1, z1⟩
 have ge_b1 : w.heap.size ≤ b1 := by have := hB.size; omega
 replace hB := hB.trans k1
 clear eb1 z1
 refine ow_d (d_box (cs := [.int .u64 (q 0), .int .u64 (q 1), .int .u64 (q 2), .int .u64 (q 3), .int .u64 (q 4), .int .u64 (q 5), .int .u64 (q 6), .int .u64 (q 7), .int .u64 (q 8), .int .u64 (q 9), .int .u64 (q 10), .int .u64 (q 11), .int .u64 (q 12), .int .u64 (q 13), .int .u64 (q 14), .int .u64 (q 15), .int .u64 (q 16), .int .u64 (q 17), .int .u64 (q 18), .int .u64 (q 19)]) rfl rfl) rfl ?_
 rintro _ w2 ⟨b2, rfl, eb2, hb2, k2, z2⟩
 have ge_b2 : w.heap.size ≤ b2 := by have := hB.size; omega
 have ne_b1_b2 : b1 ≠ b2 := by have := hb1.lt; omega
 replace hb1 := hb1.keep0 k2
 replace hB := hB.trans k2
 clear eb2 z2
 refine ow_d (d_box (cs := [.int .u64 (f 0), .int .u64 (f 1), .int .u64 (f 2), .int .u64 (f 3), .int .u64 (f 4)]) rfl rfl) rfl ?_
 rintro _ w3 ⟨b3, rfl, eb3, hb3, k3, z3⟩
 have ge_b3 : w.heap.size ≤ b3 := by have := hB.size; omega
 have ne_b1_b3 : b1 ≠ b3 := by have := hb1.lt; omega
 have ne_b2_b3 : b2 ≠ b3 := by have := hb2.lt; omega
 replace hb1 := hb1.keep0 k3
 replace hb2 := hb2.keep0 k3
 replace hB := hB.trans k3
 clear eb3 z3
 refine ow_d (d_alloc ty30) rfl ?_
 rintro _ w4 ⟨b4, rfl, eb4, hb4, k4, z4⟩
 have ge_b4 : w.heap.size ≤ b4 := by have := hB.size; omega
 have ne_b1_b4 : b1 ≠ b4 := by have := hb1.lt; omega
 have ne_b2_b4 : b2 ≠ b4 := by have := hb2.lt; omega
 have ne_b3_b4 : b3 ≠ b4 := by have := hb3.lt; omega
 replace hb1 := hb1.keep0 k4
 replace hb2 := hb2.keep0 k4
 replace hb3 := hb3.keep0 k4
 replace hB := hB.trans k4
 clear eb4 z4
 refine ow_nil (tw_seq ?_)
 have gs1 := hB.size
 have lt1 := hb1.lt
 have lt2 := hb2.lt
 have lt3 := hb3.lt
 have lt4 := hb4.lt
 refine tw_planA 12 [0, 1, 2, 3, 5, 6, 7, 8, 4, 9] [4, 9] [] [(10, 28, [.int .u64 0, .int .u64 0, .int .u64 0, .int .u64 0, .int .u64 0]), (11, 28, [.int .u64 0, .int .u64 0, .int .u64 0, .int .u64 0, .int .u64 0])] mixed [(3, _), (4, _), (5, _), (6, _)] ⟨rfl, rfl, rfl, rfl, trivial⟩ (by decide +kernel) (by decide) (by decide) ?_ (fun x hx => by cases hx) rfl (fun w5 k5 => ?_)
 · simp only [List.forall_mem_cons]; exact ⟨⟨_, _, _, _, _, _, rfl, ty28⟩, ⟨_, _, _, _, _, _, rfl, ty28⟩, fun q hq => by cases hq⟩
 replace hb1 := hb1.keep0 k5
 replace hb2 := hb2.keep0 k5
 replace hb3 := hb3.keep0 k5
 replace hb4 := hb4.keep0 k5
 replace hB := hB.trans k5
 refine pa_g [(3, _)] rfl rfl ⟨rfl, trivial⟩ rfl (fun W' kk => g_fa Try.underlying30 rfl ty28 (by decide) rfl) ?_
 refine pa_g [(15, _)] rfl rfl ⟨rfl, trivial⟩ rfl (fun W' kk => g_ldab (cs' := [_, _, _, _, _]) ag28 ty28 rfl (Bk.keep0 hb1 kk) rfl rfl) ?_
 refine pa_g [(4, _)] rfl rfl ⟨rfl, trivial⟩ rfl (fun W' kk => g_fa Try.underlying30 rfl ty28 (by decide) rfl) ?_
 refine pa_g [(17, _)] rfl rfl ⟨rfl, trivial⟩ rfl (fun W' kk => g_ldab (cs' := [_, _, _, _, _]) ag28 ty28 rfl (Bk.keep0 hb2 kk) rfl rfl) ?_
 refine pa_g [(3, _)] rfl rfl ⟨rfl, trivial⟩ rfl (fun W' kk => g_fa Try.underlying30 rfl ty28 (by decide) rfl) ?_
 refine pa_g [(20, _)] rfl rfl ⟨rfl, trivial⟩ rfl (fun W' kk => g_ldab (cs' := [_, _, _, _, _]) ag28 ty28 rfl (Bk.keep0 hb1 kk) rfl rfl) ?_
 refine pa_g [(4, _)] rfl rfl ⟨rfl, trivial⟩ rfl (fun W' kk => g_fa Try.underlying30 rfl ty28 (by decide) rfl) ?_
 refine pa_g [(22, _)] rfl rfl ⟨rfl, trivial⟩ rfl (fun W' kk => g_ldab (cs' := [_, _, _, _, _]) ag28 ty28 rfl (Bk.keep0 hb2 kk) rfl rfl) ?_
 refine pa_d [(16, _), (18, _)] rfl rfl ⟨rfl, rfl, trivial⟩ rfl (fun w7 k7 => ?_)
 replace hb1 := hb1.keep0 k7
 replace hb2 := hb2.keep0 k7
 replace hb3 := hb3.keep0 k7
 replace hb4 := hb4.keep0 k7
 replace hB := hB.trans k7
 refine (d_call (vs := [_, _]) rfl (ntimes_any _ _ _ _ hp.1 hq.1 _)).mono ?_
 rintro _ w6 ⟨hh1, rfl, E1, k6⟩
 refine ⟨k6, (fun x hx => by have hx : x ∈ ([] : List Nat) := hx; cases hx), ?_⟩
 replace hb1 := hb1.keep0 k6
 replace hb2 := hb2.keep0 k6
 replace hb3 := hb3.keep0 k6
 replace hb4 := hb4.keep0 k6
 replace hB := hB.trans k6
 refine pa_d [(21, _), (23, _)] rfl rfl ⟨rfl, rfl, trivial⟩ rfl (fun w9 k9 => ?_)
 replace hb1 := hb1.keep0 k9
 replace hb2 := hb2.keep0 k9
 replace hb3 := hb3.keep0 k9
 replace hb4 := hb4.keep0 k9
 replace hB := hB.trans k9
 refine (d_call (vs := [_, _]) rfl (ntimes_any _ _ _ _ hp.2.1 hq.2.1 _)).mono ?_
 rintro _ w8 ⟨hh2, rfl, E2, k8⟩
 refine ⟨k8, (fun x hx => by have hx : x ∈ ([] : List Nat) := hx; cases hx), ?_⟩
 replace hb1 := hb1.keep0 k8
 replace hb2 := hb2.keep0 k8
 replace hb3 := hb3.keep0 k8
 replace hb4 := hb4.keep0 k8
 replace hB := hB.trans k8
 refine pa_nil (fun w10 k10 => ?_)
 replace hb1 := hb1.keep0 k10
 replace hb2 := hb2.keep0 k10
 replace hb3 := hb3.keep0 k10
 replace hb4 := hb4.keep0 k10
 replace hB := hB.trans k10
 intro b5 eb5 lb1 hb5 ds1 sp1
 have ge_b5 : w.heap.size ≤ b5 := Nat.le_trans gs1 eb5
 have ne_b1_b5 : b1 ≠ b5 := Nat.ne_of_lt (Nat.lt_of_lt_of_le lt1 eb5)
 have ne_b2_b5 : b2 ≠ b5 := Nat.ne_of_lt (Nat.lt_of_lt_of_le lt2 eb5)
 have ne_b3_b5 : b3 ≠ b5 := Nat.ne_of_lt (Nat.lt_of_lt_of_le lt3 eb5)
 have ne_b4_b5 : b4 ≠ b5 := Nat.ne_of_lt (Nat.lt_of_lt_of_le lt4 eb5)
 intro b6 eb6 lb2 hb6 ds2 sp2
 have ge_b6 : w.heap.size ≤ b6 := Nat.le_trans gs1 eb6
 have ne_b1_b6 : b1 ≠ b6 := Nat.ne_of_lt (Nat.lt_of_lt_of_le lt1 eb6)
 have ne_b2_b6 : b2 ≠ b6 := Nat.ne_of_lt (Nat.lt_of_lt_of_le lt2 eb6)
 have ne_b3_b6 : b3 ≠ b6 := Nat.ne_of_lt (Nat.lt_of_lt_of_le lt3 eb6)
 have ne_b4_b6 : b4 ≠ b6 := Nat.ne_of_lt (Nat.lt_of_lt_of_le lt4 eb6)
 have ne1 := ds2 b5 (by simp)
 refine fina_nil ?_
 refine ow_d0 (d_sta ty28 rfl rfl rfl ivF_one hb5 rfl) ?_
 rintro _ w11 ⟨hb7, k11, z5⟩
 replace hb1 := hb1.keep k11 (fun hm => absurd (List.mem_singleton.1 hm) ne_b1_b5)
 replace hb2 := hb2.keep k11 (fun hm => absurd (List.mem_singleton.1 hm) ne_b2_b5)
 replace hb3 := hb3.keep k11 (fun hm => absurd (List.mem_singleton.1 hm) ne_b3_b5)
 replace hb4 := hb4.keep k11 (fun hm => absurd (List.mem_singleton.1 hm) ne_b4_b5)
 replace hb6 := hb6.keep k11 (fun hm => absurd (List.mem_singleton.1 hm) (Ne.symm ne1))
 replace hB := hB.new k11 (fun x hx => .inl ((List.mem_singleton.1 hx) ▸ ge_b5))
 clear z5
 replace hb7 : Bk w11 b5 _ [.int .u64 (hh1 0), .int .u64 (hh1 1), .int .u64 (hh1 2), .int .u64 (hh1 3), .int .u64 (hh1 4)] := hb7
 refine ow_d0 (d_sta ty28 rfl rfl rfl ivF_one hb6 rfl) ?_
 rintro _ w12 ⟨hb8, k12, z6⟩
 replace hb1 := hb1.keep k12 (fun hm => absurd (List.mem_singleton.1 hm) ne_b1_b6)
 replace hb2 := hb2.keep k12 (fun hm => absurd (List.mem_singleton.1 hm) ne_b2_b6)
 replace hb3 := hb3.keep k12 (fun hm => absurd (List.mem_singleton.1 hm) ne_b3_b6)
 replace hb4 := hb4.keep k12 (fun hm => absurd (List.mem_singleton.1 hm) ne_b4_b6)
 replace hb7 := hb7.keep k12 (fun hm => absurd (List.mem_singleton.1 hm) ne1)
 replace hB := hB.new k12 (fun x hx => .inl ((List.mem_singleton.1 hx) ▸ ge_b6))
 clear z6
 replace hb8 : Bk w12 b6 _ [.int .u64 (hh2 0), .int .u64 (hh2 1), .int .u64 (hh2 2), .int .u64 (hh2 3), .int .u64 (hh2 4)] := hb8
 refine ow_nil (tw_keep [(3, _), (4, _), (5, _), (6, _), (7, _), (8, _)] ⟨rfl, rfl, rfl, rfl, rfl, rfl, trivial⟩ ?_)
 refine tw_seq ?_
 have gs2 := hB.size
 have lt5 := hb1.lt
 have lt6 := hb2.lt
 have lt7 := hb3.lt
 have lt8 := hb4.lt
 have lt9 := hb7.lt
 have lt10 := hb8.lt
 refine tw_planA 14 [0, 1, 2, 3, 5, 7, 8, 9, 10, 4, 6, 11] [4, 6, 11] [] [(12, 28, [.int .u64 0, .int .u64 0, .int .u64 0, .int .u64 0, .int .u64 0]), (13, 28, [.int .u64 0, .int .u64 0, .int .u64 0, .int .u64 0, .int .u64 0])] mixed [(3, _), (4, _), (5, _), (6, _), (7, _), (8, _)] ⟨rfl, rfl, rfl, rfl, rfl, rfl, trivial⟩ (by decide +kernel) (by decide) (by decide) ?_ (fun x hx => by cases hx) rfl (fun w13 k13 => ?_)
 · simp only [List.forall_mem_cons]; exact ⟨⟨_, _, _, _, _, _, rfl, ty28⟩, ⟨_, _, _, _, _, _, rfl, ty28⟩, fun q hq => by cases hq⟩
 replace hb1 := hb1.keep0 k13
 replace hb2 := hb2.keep0 k13
 replace hb3 := hb3.keep0 k13
 replace hb4 := hb4.keep0 k13
 replace hb7 := hb7.keep0 k13
 replace hb8 := hb8.keep0 k13
 replace hB := hB.trans k13
 refine pa_g [(3, _)] rfl rfl ⟨rfl, trivial⟩ rfl (fun W' kk => g_fa Try.underlying30 rfl ty28 (by decide) rfl) ?_
 refine pa_g [(25, _)] rfl rfl ⟨rfl, trivial⟩ rfl (fun W' kk => g_ldab (cs' := [_, _, _, _, _]) ag28 ty28 rfl (Bk.keep0 hb1 kk) rfl rfl) ?_
 refine pa_g [(4, _)] rfl rfl ⟨rfl, trivial⟩ rfl (fun W' kk => g_fa Try.underlying30 rfl ty28 (by decide) rfl) ?_
 refine pa_g [(27, _)] rfl rfl ⟨rfl, trivial⟩ rfl (fun W' kk => g_ldab (cs' := [_, _, _, _, _]) ag28 ty28 rfl (Bk.keep0 hb2 kk) rfl rfl) ?_
 refine pa_g [(5, _)] rfl rfl ⟨rfl, trivial⟩ rfl (fun W' kk => g_ldab (cs' := [_, _, _, _, _]) ag28 ty28 rfl (Bk.keep0 hb3 kk) rfl rfl) ?_
 refine pa_g [(3, _)] rfl rfl ⟨rfl, trivial⟩ rfl (fun W' kk => g_fa Try.underlying30 rfl ty28 (by decide) rfl) ?_
 refine pa_g [(32, _)] rfl rfl ⟨rfl, trivial⟩ rfl (fun W' kk => g_ldab (cs' := [_, _, _, _, _]) ag28 ty28 rfl (Bk.keep0 hb1 kk) rfl rfl) ?_
 refine pa_g [(4, _)] rfl rfl ⟨rfl, trivial⟩ rfl (fun W' kk => g_fa Try.underlying30 rfl ty28 (by decide) rfl) ?_
 refine pa_g [(34, _)] rfl rfl ⟨rfl, trivial⟩ rfl (fun W' kk => g_ldab (cs' := [_, _, _, _, _]) ag28 ty28 rfl (Bk.keep0 hb2 kk) rfl rfl) ?_
 refine pa_d [(26, _), (28, _)] rfl rfl ⟨rfl, rfl, trivial⟩ rfl (fun w15 k15 => ?_)
 replace hb1 := hb1.keep0 k15
 replace hb2 := hb2.keep0 k15
 replace hb3 := hb3.keep0 k15
 replace hb4 := hb4.keep0 k15
 replace hb7 := hb7.keep0 k15
 replace hb8 := hb8.keep0 k15
 replace hB := hB.trans k15
 refine (d_call (vs := [_, _]) rfl (ntimes_any _ _ _ _ hp.2.2.2 hq.2.2.2 _)).mono ?_
 rintro _ w14 ⟨hh3, rfl, E3, k14⟩
 refine ⟨k14, (fun x hx => by have hx : x ∈ ([] : List Nat) := hx; cases hx), ?_⟩
 replace hb1 := hb1.keep0 k14
 replace hb2 := hb2.keep0 k14
 replace hb3 := hb3.keep0 k14
 replace hb4 := hb4.keep0 k14
 replace hb7 := hb7.keep0 k14
 replace hb8 := hb8.keep0 k14
 replace hB := hB.trans k14
 refine pa_d [(29, _), (30, _)] rfl rfl ⟨rfl, rfl, trivial⟩ rfl (fun w17 k17 => ?_)
 replace hb1 := hb1.keep0 k17
 replace hb2 := hb2.keep0 k17
 replace hb3 := hb3.keep0 k17
 replace hb4 := hb4.keep0 k17
 replace hb7 := hb7.keep0 k17
 replace hb8 := hb8.keep0 k17
 replace hB := hB.trans k17
 refine (d_call (vs := [_, _]) rfl (ntimes_any _ _ _ _ E3 hf _)).mono ?_
 rintro _ w16 ⟨hh4, rfl, E4, k16⟩
 refine ⟨k16, (fun x hx => by have hx : x ∈ ([] : List Nat) := hx; cases hx), ?_⟩
 replace hb1 := hb1.keep0 k16
 replace hb2 := hb2.keep0 k16
 replace hb3 := hb3.keep0 k16
 replace hb4 := hb4.keep0 k16
 replace hb7 := hb7.keep0 k16
 replace hb8 := hb8.keep0 k16
 replace hB := hB.trans k16
 refine pa_d [(33, _), (35, _)] rfl rfl ⟨rfl, rfl, trivial⟩ rfl (fun w19 k19 => ?_)
 replace hb1 := hb1.keep0 k19
 replace hb2 := hb2.keep0 k19
 replace hb3 := hb3.keep0 k19
 replace hb4 := hb4.keep0 k19
 replace hb7 := hb7.keep0 k19
 replace hb8 := hb8.keep0 k19
 replace hB := hB.trans k19
 refine (d_call (vs := [_, _]) rfl (ntimes_any _ _ _ _ hp.2.2.1 hq.2.2.1 _)).mono ?_
 rintro _ w18 ⟨hh5, rfl, E5, k18⟩
 refine ⟨k18, (fun x hx => by have hx : x ∈ ([] : List Nat) := hx; cases hx), ?_⟩
 replace hb1 := hb1.keep0 k18
 replace hb2 := hb2.keep0 k18
 replace hb3 := hb3.keep0 k18
 replace hb4 := hb4.keep0 k18
 replace hb7 := hb7.keep0 k18
 replace hb8 := hb8.keep0 k18
 replace hB := hB.trans k18
 refine pa_nil (fun w20 k20 => ?_)
 replace hb1 := hb1.keep0 k20
 replace hb2 := hb2.keep0 k20
 replace hb3 := hb3.keep0 k20
 replace hb4 := hb4.keep0 k20
 replace hb7 := hb7.keep0 k20
 replace hb8 := hb8.keep0 k20
 replace hB := hB.trans k20
 intro b7 eb7 lb3 hb9 ds3 sp3
 have ge_b7 : w.heap.size ≤ b7 := Nat.le_trans gs2 eb7
 have ne_b1_b7 : b1 ≠ b7 := Nat.ne_of_lt (Nat.lt_of_lt_of_le lt5 eb7)
 have ne_b2_b7 : b2 ≠ b7 := Nat.ne_of_lt (Nat.lt_of_lt_of_le lt6 eb7)
 have ne_b3_b7 : b3 ≠ b7 := Nat.ne_of_lt (Nat.lt_of_lt_of_le lt7 eb7)
 have ne_b4_b7 : b4 ≠ b7 := Nat.ne_of_lt (Nat.lt_of_lt_of_le lt8 eb7)
 have ne_b5_b7 : b5 ≠ b7 := Nat.ne_of_lt (Nat.lt_of_lt_of_le lt9 eb7)
 have ne_b6_b7 : b6 ≠ b7 := Nat.ne_of_lt (Nat.lt_of_lt_of_le lt10 eb7)
 intro b8 eb8 lb4 hb10 ds4 sp4
 have ge_b8 : w.heap.size ≤ b8 := Nat.le_trans gs2 eb8
 have ne_b1_b8 : b1 ≠ b8 := Nat.ne_of_lt (Nat.lt_of_lt_of_le lt5 eb8)
 have ne_b2_b8 : b2 ≠ b8 := Nat.ne_of_lt (Nat.lt_of_lt_of_le lt6 eb8)
 have ne_b3_b8 : b3 ≠ b8 := Nat.ne_of_lt (Nat.lt_of_lt_of_le lt7 eb8)
 have ne_b4_b8 : b4 ≠ b8 := Nat.ne_of_lt (Nat.lt_of_lt_of_le lt8 eb8)
 have ne_b5_b8 : b5 ≠ b8 := Nat.ne_of_lt (Nat.lt_of_lt_of_le lt9 eb8)
 have ne_b6_b8 : b6 ≠ b8 := Nat.ne_of_lt (Nat.lt_of_lt_of_le lt10 eb8)
 have ne2 := ds4 b7 (by simp)
 refine fina_nil ?_
 refine ow_d0 (d_sta ty28 rfl rfl rfl ivF_one hb9 rfl) ?_
 rintro _ w21 ⟨hb11, k21, z7⟩
 replace hb1 := hb1.keep k21 (fun hm => absurd (List.mem_singleton.1 hm) ne_b1_b7)
 replace hb2 := hb2.keep k21 (fun hm => absurd (List.mem_singleton.1 hm) ne_b2_b7)
 replace hb3 := hb3.keep k21 (fun hm => absurd (List.mem_singleton.1 hm) ne_b3_b7)
 replace hb4 := hb4.keep k21 (fun hm => absurd (List.mem_singleton.1 hm) ne_b4_b7)
 replace hb7 := hb7.keep k21 (fun hm => absurd (List.mem_singleton.1 hm) ne_b5_b7)
 replace hb8 := hb8.keep k21 (fun hm => absurd (List.mem_singleton.1 hm) ne_b6_b7)
 replace hb10 := hb10.keep k21 (fun hm => absurd (List.mem_singleton.1 hm) (Ne.symm ne2))
 replace hB := hB.new k21 (fun x hx => .inl ((List.mem_singleton.1 hx) ▸ ge_b7))
 clear z7
 replace hb11 : Bk w21 b7 _ [.int .u64 (hh4 0), .int .u64 (hh4 1), .int .u64 (hh4 2), .int .u64 (hh4 3), .int .u64 (hh4 4)] := hb11
 refine ow_d0 (d_sta ty28 rfl rfl rfl ivF_one hb10 rfl) ?_
 rintro _ w22 ⟨hb12, k22, z8⟩
 replace hb1 := hb1.keep k22 (fun hm => absurd (List.mem_singleton.1 hm) ne_b1_b8)
 replace hb2 := hb2.keep k22 (fun hm => absurd (List.mem_singleton.1 hm) ne_b2_b8)
 replace hb3 := hb3.keep k22 (fun hm => absurd (List.mem_singleton.1 hm) ne_b3_b8)
 replace hb4 := hb4.keep k22 (fun hm => absurd (List.mem_singleton.1 hm) ne_b4_b8)
 replace hb7 := hb7.keep k22 (fun hm => absurd (List.mem_singleton.1 hm) ne_b5_b8)
 replace hb8 := hb8.keep k22 (fun hm => absurd (List.mem_singleton.1 hm) ne_b6_b8)
 replace hb11 := hb11.keep k22 (fun hm => absurd (List.mem_singleton.1 hm) ne2)
 replace hB := hB.new k22 (fun x hx => .inl ((List.mem_singleton.1 hx) ▸ ge_b8))
 clear z8
 replace hb12 : Bk w22 b8 _ [.int .u64 (hh5 0), .int .u64 (hh5 1), .int .u64 (hh5 2), .int .u64 (hh5 3), .int .u64 (hh5 4)] := hb12
 refine ow_nil (tw_keep [(3, _), (4, _), (6, _), (7, _), (8, _), (9, _), (10, _)] ⟨rfl, rfl, rfl, rfl, rfl, rfl, rfl, trivial⟩ ?_)
 refine tw_seq ?_
 have gs3 := hB.size
 have lt11 := hb1.lt
 have lt12 := hb2.lt
 have lt13 := hb4.lt
 have lt14 := hb7.lt
 have lt15 := hb8.lt
 have lt16 := hb11.lt
 have lt17 := hb12.lt
 refine tw_planA 16 [0, 1, 2, 3, 5, 6, 7, 8, 11, 13, 4, 9, 10, 12, 14] [4, 9, 10, 12, 14] [] [(15, 28, [.int .u64 0, .int .u64 0, .int .u64 0, .int .u64 0, .int .u64 0])] mixed [(3, _), (4, _), (7, _), (8, _), (6, _), (9, _), (10, _)] ⟨rfl, rfl, rfl, rfl, rfl, rfl, rfl, trivial⟩ (by decide +kernel) (by decide) (by decide) ?_ (fun x hx => by cases hx) rfl (fun w23 k23 => ?_)
 · simp only [List.forall_mem_cons]; exact ⟨⟨_, _, _, _, _, _, rfl, ty28⟩, fun q hq => by cases hq⟩
 replace hb1 := hb1.keep0 k23
 replace hb2 := hb2.keep0 k23
 replace hb4 := hb4.keep0 k23
 replace hb7 := hb7.keep0 k23
 replace hb8 := hb8.keep0 k23
 replace hb11 := hb11.keep0 k23
 replace hb12 := hb12.keep0 k23
 replace hB := hB.trans k23
 refine pa_g [(3, _)] rfl rfl ⟨rfl, trivial⟩ rfl (fun W' kk => g_fa Try.underlying30 rfl ty28 (by decide) rfl) ?_
 refine pa_g [(37, _)] rfl rfl ⟨rfl, trivial⟩ rfl (fun W' kk => g_ldab (cs' := [_, _, _, _, _]) ag28 ty28 rfl (Bk.keep0 hb1 kk) rfl rfl) ?_
 refine pa_g [(3, _)] rfl rfl ⟨rfl, trivial⟩ rfl (fun W' kk => g_fa Try.underlying30 rfl ty28 (by decide) rfl) ?_
 refine pa_g [(39, _)] rfl rfl ⟨rfl, trivial⟩ rfl (fun W' kk => g_ldab (cs' := [_, _, _, _, _]) ag28 ty28 rfl (Bk.keep0 hb1 kk) rfl rfl) ?_
 refine pa_g [(4, _)] rfl rfl ⟨rfl, trivial⟩ rfl (fun W' kk => g_fa Try.underlying30 rfl ty28 (by decide) rfl) ?_
 refine pa_g [(42, _)] rfl rfl ⟨rfl, trivial⟩ rfl (fun W' kk => g_ldab (cs' := [_, _, _, _, _]) ag28 ty28 rfl (Bk.keep0 hb2 kk) rfl rfl) ?_
 refine pa_g [(4, _)] rfl rfl ⟨rfl, trivial⟩ rfl (fun W' kk => g_fa Try.underlying30 rfl ty28 (by decide) rfl) ?_
 refine pa_g [(44, _)] rfl rfl ⟨rfl, trivial⟩ rfl (fun W' kk => g_ldab (cs' := [_, _, _, _, _]) ag28 ty28 rfl (Bk.keep0 hb2 kk) rfl rfl) ?_
 refine pa_g [(7, _)] rfl rfl ⟨rfl, trivial⟩ rfl (fun W' kk => g_ldab (cs' := [_, _, _, _, _]) ag28 ty28 rfl (Bk.keep0 hb7 kk) rfl rfl) ?_
 refine pa_g [(8, _)] rfl rfl ⟨rfl, trivial⟩ rfl (fun W' kk => g_ldab (cs' := [_, _, _, _, _]) ag28 ty28 rfl (Bk.keep0 hb8 kk) rfl rfl) ?_
 refine pa_d [(38, _), (40, _)] rfl rfl ⟨rfl, rfl, trivial⟩ rfl (fun w25 k25 => ?_)
 replace hb1 := hb1.keep0 k25
 replace hb2 := hb2.keep0 k25
 replace hb4 := hb4.keep0 k25
 replace hb7 := hb7.keep0 k25
 replace hb8 := hb8.keep0 k25
 replace hb11 := hb11.keep0 k25
 replace hb12 := hb12.keep0 k25
 replace hB := hB.trans k25
 refine (d_call (vs := [_, _]) rfl (nplus_any _ _ _ _ hp.1 hp.2.1 _)).mono ?_
 rintro _ w24 ⟨hh6, rfl, E6, k24⟩
 refine ⟨k24, (fun x hx => by have hx : x ∈ ([] : List Nat) := hx; cases hx), ?_⟩
 replace hb1 := hb1.keep0 k24
 replace hb2 := hb2.keep0 k24
 replace hb4 := hb4.keep0 k24
 replace hb7 := hb7.keep0 k24
 replace hb8 := hb8.keep0 k24
 replace hb11 := hb11.keep0 k24
 replace hb12 := hb12.keep0 k24
 replace hB := hB.trans k24
 refine pa_d [(43, _), (45, _)] rfl rfl ⟨rfl, rfl, trivial⟩ rfl (fun w27 k27 => ?_)
 replace hb1 := hb1.keep0 k27
 replace hb2 := hb2.keep0 k27
 replace hb4 := hb4.keep0 k27
 replace hb7 := hb7.keep0 k27
 replace hb8 := hb8.keep0 k27
 replace hb11 := hb11.keep0 k27
 replace hb12 := hb12.keep0 k27
 replace hB := hB.trans k27
 refine (d_call (vs := [_, _]) rfl (nplus_any _ _ _ _ hq.1 hq.2.1 _)).mono ?_
 rintro _ w26 ⟨hh7, rfl, E7, k26⟩
 refine ⟨k26, (fun x hx => by have hx : x ∈ ([] : List Nat) := hx; cases hx), ?_⟩
 replace hb1 := hb1.keep0 k26
 replace hb2 := hb2.keep0 k26
 replace hb4 := hb4.keep0 k26
 replace hb7 := hb7.keep0 k26
 replace hb8 := hb8.keep0 k26
 replace hb11 := hb11.keep0 k26
 replace hb12 := hb12.keep0 k26
 replace hB := hB.trans k26
 refine pa_d [(41, _), (46, _)] rfl rfl ⟨rfl, rfl, trivial⟩ rfl (fun w29 k29 => ?_)
 replace hb1 := hb1.keep0 k29
 replace hb2 := hb2.keep0 k29
 replace hb4 := hb4.keep0 k29
 replace hb7 := hb7.keep0 k29
 replace hb8 := hb8.keep0 k29
 replace hb11 := hb11.keep0 k29
 replace hb12 := hb12.keep0 k29
 replace hB := hB.trans k29
 refine (d_call (vs := [_, _]) rfl (ntimes_any _ _ _ _ E6 E7 _)).mono ?_
 rintro _ w28 ⟨hh8, rfl, E8, k28⟩
 refine ⟨k28, (fun x hx => by have hx : x ∈ ([] : List Nat) := hx; cases hx), ?_⟩
 replace hb1 := hb1.keep0 k28
 replace hb2 := hb2.keep0 k28
 replace hb4 := hb4.keep0 k28
 replace hb7 := hb7.keep0 k28
 replace hb8 := hb8.keep0 k28
 replace hb11 := hb11.keep0 k28
 replace hb12 := hb12.keep0 k28
 replace hB := hB.trans k28
 refine pa_d [(47, _), (48, _)] rfl rfl ⟨rfl, rfl, trivial⟩ rfl (fun w31 k31 => ?_)
 replace hb1 := hb1.keep0 k31
 replace hb2 := hb2.keep0 k31
 replace hb4 := hb4.keep0 k31
 replace hb7 := hb7.keep0 k31
 replace hb8 := hb8.keep0 k31
 replace hb11 := hb11.keep0 k31
 replace hb12 := hb12.keep0 k31
 replace hB := hB.trans k31
 refine (d_call (vs := [_, _]) rfl (nminus_any _ _ _ _ E8 E1 _)).mono ?_
 rintro _ w30 ⟨hh9, rfl, E9, k30⟩
 refine ⟨k30, (fun x hx => by have hx : x ∈ ([] : List Nat) := hx; cases hx), ?_⟩
 replace hb1 := hb1.keep0 k30
 replace hb2 := hb2.keep0 k30
 replace hb4 := hb4.keep0 k30
 replace hb7 := hb7.keep0 k30
 replace hb8 := hb8.keep0 k30
 replace hb11 := hb11.keep0 k30
 replace hb12 := hb12.keep0 k30
 replace hB := hB.trans k30
 refine pa_d [(49, _), (50, _)] rfl rfl ⟨rfl, rfl, trivial⟩ rfl (fun w33 k33 => ?_)
 replace hb1 := hb1.keep0 k33
 replace hb2 := hb2.keep0 k33
 replace hb4 := hb4.keep0 k33
 replace hb7 := hb7.keep0 k33
 replace hb8 := hb8.keep0 k33
 replace hb11 := hb11.keep0 k33
 replace hb12 := hb12.keep0 k33
 replace hB := hB.trans k33
 refine (d_call (vs := [_, _]) rfl (nminus_any _ _ _ _ E9 E2 _)).mono ?_
 rintro _ w32 ⟨hh10, rfl, E10, k32⟩
 refine ⟨k32, (fun x hx => by have hx : x ∈ ([] : List Nat) := hx; cases hx), ?_⟩
 replace hb1 := hb1.keep0 k32
 replace hb2 := hb2.keep0 k32
 replace hb4 := hb4.keep0 k32
 replace hb7 := hb7.keep0 k32
 replace hb8 := hb8.keep0 k32
 replace hb11 := hb11.keep0 k32
 replace hb12 := hb12.keep0 k32
 replace hB := hB.trans k32
 refine pa_nil (fun w34 k34 => ?_)
 replace hb1 := hb1.keep0 k34
 replace hb2 := hb2.keep0 k34
 replace hb4 := hb4.keep0 k34
 replace hb7 := hb7.keep0 k34
 replace hb8 := hb8.keep0 k34
 replace hb11 := hb11.keep0 k34
 replace hb12 := hb12.keep0 k34
 replace hB := hB.trans k34
 intro b9 eb9 lb5 hb13 ds5 sp5
 have ge_b9 : w.heap.size ≤ b9 := Nat.le_trans gs3 eb9
 have ne_b1_b9 : b1 ≠ b9 := Nat.ne_of_lt (Nat.lt_of_lt_of_le lt11 eb9)
 have ne_b2_b9 : b2 ≠ b9 := Nat.ne_of_lt (Nat.lt_of_lt_of_le lt12 eb9)
 have ne_b4_b9 : b4 ≠ b9 := Nat.ne_of_lt (Nat.lt_of_lt_of_le lt13 eb9)
 have ne_b5_b9 : b5 ≠ b9 := Nat.ne_of_lt (Nat.lt_of_lt_of_le lt14 eb9)
 have ne_b6_b9 : b6 ≠ b9 := Nat.ne_of_lt (Nat.lt_of_lt_of_le lt15 eb9)
 have ne_b7_b9 : b7 ≠ b9 := Nat.ne_of_lt (Nat.lt_of_lt_of_le lt16 eb9)
 have ne_b8_b9 : b8 ≠ b9 := Nat.ne_of_lt (Nat.lt_of_lt_of_le lt17 eb9)
 refine fina_nil ?_
 refine ow_d0 (d_sta ty28 rfl rfl rfl ivF_one hb13 rfl) ?_
 rintro _ w35 ⟨hb14, k35, z9⟩
 replace hb1 := hb1.keep k35 (fun hm => absurd (List.mem_singleton.1 hm) ne_b1_b9)
 replace hb2 := hb2.keep k35 (fun hm => absurd (List.mem_singleton.1 hm) ne_b2_b9)
 replace hb4 := hb4.keep k35 (fun hm => absurd (List.mem_singleton.1 hm) ne_b4_b9)
 replace hb7 := hb7.keep k35 (fun hm => absurd (List.mem_singleton.1 hm) ne_b5_b9)
 replace hb8 := hb8.keep k35 (fun hm => absurd (List.mem_singleton.1 hm) ne_b6_b9)
 replace hb11 := hb11.keep k35 (fun hm => absurd (List.mem_singleton.1 hm) ne_b7_b9)
 replace hb12 := hb12.keep k35 (fun hm => absurd (List.mem_singleton.1 hm) ne_b8_b9)
 replace hB := hB.new k35 (fun x hx => .inl ((List.mem_singleton.1 hx) ▸ ge_b9))
 clear z9
 replace hb14 : Bk w35 b9 _ [.int .u64 (hh10 0), .int .u64 (hh10 1), .int .u64 (hh10 2), .int .u64 (hh10 3), .int .u64 (hh10 4)] := hb14
 refine ow_nil (tw_keep [(7, _), (8, _), (6, _), (9, _), (10, _), (11, _)] ⟨rfl, rfl, rfl, rfl, rfl, rfl, trivial⟩ ?_)
 refine tw_seq ?_
 have gs4 := hB.size
 have lt18 := hb4.lt
 have lt19 := hb7.lt
 have lt20 := hb8.lt
 have lt21 := hb11.lt
 have lt22 := hb12.lt
 have lt23 := hb14.lt
 refine tw_planA 12 [0, 1, 3, 4, 6, 7, 2, 5, 8] [2, 5, 8] [] [(9, 28, [.int .u64 0, .int .u64 0, .int .u64 0, .int .u64 0, .int .u64 0]), (10, 28, [.int .u64 0, .int .u64 0, .int .u64 0, .int .u64 0, .int .u64 0]), (11, 28, [.int .u64 0, .int .u64 0, .int .u64 0, .int .u64 0, .int .u64 0])] mixed [(10, _), (9, _), (8, _), (7, _), (6, _), (11, _)] ⟨rfl, rfl, rfl, rfl, rfl, rfl, trivial⟩ (by decide +kernel) (by decide) (by decide) ?_ (fun x hx => by cases hx) rfl (fun w36 k36 => ?_)
 · simp only [List.forall_mem_cons]; exact ⟨⟨_, _, _, _, _, _, rfl, ty28⟩, ⟨_, _, _, _, _, _, rfl, ty28⟩, ⟨_, _, _, _, _, _, rfl, ty28⟩, fun q hq => by cases hq⟩
 replace hb4 := hb4.keep0 k36
 replace hb7 := hb7.keep0 k36
 replace hb8 := hb8.keep0 k36
 replace hb11 := hb11.keep0 k36
 replace hb12 := hb12.keep0 k36
 replace hb14 := hb14.keep0 k36
 replace hB := hB.trans k36
 refine pa_g [(10, _)] rfl rfl ⟨rfl, trivial⟩ rfl (fun W' kk => g_ldab (cs' := [_, _, _, _, _]) ag28 ty28 rfl (Bk.keep0 hb12 kk) rfl rfl) ?_
 refine pa_g [(9, _)] rfl rfl ⟨rfl, trivial⟩ rfl (fun W' kk => g_ldab (cs' := [_, _, _, _, _]) ag28 ty28 rfl (Bk.keep0 hb11 kk) rfl rfl) ?_
 refine pa_g [(10, _)] rfl rfl ⟨rfl, trivial⟩ rfl (fun W' kk => g_ldab (cs' := [_, _, _, _, _]) ag28 ty28 rfl (Bk.keep0 hb12 kk) rfl rfl) ?_
 refine pa_g [(9, _)] rfl rfl ⟨rfl, trivial⟩ rfl (fun W' kk => g_ldab (cs' := [_, _, _, _, _]) ag28 ty28 rfl (Bk.keep0 hb11 kk) rfl rfl) ?_
 refine pa_g [(8, _)] rfl rfl ⟨rfl, trivial⟩ rfl (fun W' kk => g_ldab (cs' := [_, _, _, _, _]) ag28 ty28 rfl (Bk.keep0 hb8 kk) rfl rfl) ?_
 refine pa_g [(7, _)] rfl rfl ⟨rfl, trivial⟩ rfl (fun W' kk => g_ldab (cs' := [_, _, _, _, _]) ag28 ty28 rfl (Bk.keep0 hb7 kk) rfl rfl) ?_
 refine pa_d [(52, _), (53, _)] rfl rfl ⟨rfl, rfl, trivial⟩ rfl (fun w38 k38 => ?_)
 replace hb4 := hb4.keep0 k38
 replace hb7 := hb7.keep0 k38
 replace hb8 := hb8.keep0 k38
 replace hb11 := hb11.keep0 k38
 replace hb12 := hb12.keep0 k38
 replace hb14 := hb14.keep0 k38
 replace hB := hB.trans k38
 refine (d_call (vs := [_, _]) rfl (nminus_any _ _ _ _ E5 E4 _)).mono ?_
 rintro _ w37 ⟨hh11, rfl, E11, k37⟩
 refine ⟨k37, (fun x hx => by have hx : x ∈ ([] : List Nat) := hx; cases hx), ?_⟩
 replace hb4 := hb4.keep0 k37
 replace hb7 := hb7.keep0 k37
 replace hb8 := hb8.keep0 k37
 replace hb11 := hb11.keep0 k37
 replace hb12 := hb12.keep0 k37
 replace hb14 := hb14.keep0 k37
 replace hB := hB.trans k37
 refine pa_d [(55, _), (56, _)] rfl rfl ⟨rfl, rfl, trivial⟩ rfl (fun w40 k40 => ?_)
 replace hb4 := hb4.keep0 k40
 replace hb7 := hb7.keep0 k40
 replace hb8 := hb8.keep0 k40
 replace hb11 := hb11.keep0 k40
 replace hb12 := hb12.keep0 k40
 replace hb14 := hb14.keep0 k40
 replace hB := hB.trans k40
 refine (d_call (vs := [_, _]) rfl (nplus_any _ _ _ _ E5 E4 _)).mono ?_
 rintro _ w39 ⟨hh12, rfl, E12, k39⟩
 refine ⟨k39, (fun x hx => by have hx : x ∈ ([] : List Nat) := hx; cases hx), ?_⟩
 replace hb4 := hb4.keep0 k39
 replace hb7 := hb7.keep0 k39
 replace hb8 := hb8.keep0 k39
 replace hb11 := hb11.keep0 k39
 replace hb12 := hb12.keep0 k39
 replace hb14 := hb14.keep0 k39
 replace hB := hB.trans k39
 refine pa_d [(58, _), (59, _)] rfl rfl ⟨rfl, rfl, trivial⟩ rfl (fun w42 k42 => ?_)
 replace hb4 := hb4.keep0 k42
 replace hb7 := hb7.keep0 k42
 replace hb8 := hb8.keep0 k42
 replace hb11 := hb11.keep0 k42
 replace hb12 := hb12.keep0 k42
 replace hb14 := hb14.keep0 k42
 replace hB := hB.trans k42
 refine (d_call (vs := [_, _]) rfl (nplus_any _ _ _ _ E2 E1 _)).mono ?_
 rintro _ w41 ⟨hh13, rfl, E13, k41⟩
 refine ⟨k41, (fun x hx => by have hx : x ∈ ([] : List Nat) := hx; cases hx), ?_⟩
 replace hb4 := hb4.keep0 k41
 replace hb7 := hb7.keep0 k41
 replace hb8 := hb8.keep0 k41
 replace hb11 := hb11.keep0 k41
 replace hb12 := hb12.keep0 k41
 replace hb14 := hb14.keep0 k41
 replace hB := hB.trans k41
 refine pa_nil (fun w43 k43 => ?_)
 replace hb4 := hb4.keep0 k43
 replace hb7 := hb7.keep0 k43
 replace hb8 := hb8.keep0 k43
 replace hb11 := hb11.keep0 k43
 replace hb12 := hb12.keep0 k43
 replace hb14 := hb14.keep0 k43
 replace hB := hB.trans k43
 intro b10 eb10 lb6 hb15 ds6 sp6
 have ge_b10 : w.heap.size ≤ b10 := Nat.le_trans gs4 eb10
 have ne_b4_b10 : b4 ≠ b10 := Nat.ne_of_lt (Nat.lt_of_lt_of_le lt18 eb10)
 have ne_b5_b10 : b5 ≠ b10 := Nat.ne_of_lt (Nat.lt_of_lt_of_le lt19 eb10)
 have ne_b6_b10 : b6 ≠ b10 := Nat.ne_of_lt (Nat.lt_of_lt_of_le lt20 eb10)
 have ne_b7_b10 : b7 ≠ b10 := Nat.ne_of_lt (Nat.lt_of_lt_of_le lt21 eb10)
 have ne_b8_b10 : b8 ≠ b10 := Nat.ne_of_lt (Nat.lt_of_lt_of_le lt22 eb10)
 have ne_b9_b10 : b9 ≠ b10 := Nat.ne_of_lt (Nat.lt_of_lt_of_le lt23 eb10)
 intro b11 eb11 lb7 hb16 ds7 sp7
 have ge_b11 : w.heap.size ≤ b11 := Nat.le_trans gs4 eb11
 have ne_b4_b11 : b4 ≠ b11 := Nat.ne_of_lt (Nat.lt_of_lt_of_le lt18 eb11)
 have ne_b5_b11 : b5 ≠ b11 := Nat.ne_of_lt (Nat.lt_of_lt_of_le lt19 eb11)
 have ne_b6_b11 : b6 ≠ b11 := Nat.ne_of_lt (Nat.lt_of_lt_of_le lt20 eb11)
 have ne_b7_b11 : b7 ≠ b11 := Nat.ne_of_lt (Nat.lt_of_lt_of_le lt21 eb11)
 have ne_b8_b11 : b8 ≠ b11 := Nat.ne_of_lt (Nat.lt_of_lt_of_le lt22 eb11)
 have ne_b9_b11 : b9 ≠ b11 := Nat.ne_of_lt (Nat.lt_of_lt_of_le lt23 eb11)
 have ne3 := ds7 b10 (by simp)
 intro b12 eb12 lb8 hb17 ds8 sp8
 have ge_b12 : w.heap.size ≤ b12 := Nat.le_trans gs4 eb12
 have ne_b4_b12 : b4 ≠ b12 := Nat.ne_of_lt (Nat.lt_of_lt_of_le lt18 eb12)
 have ne_b5_b12 : b5 ≠ b12 := Nat.ne_of_lt (Nat.lt_of_lt_of_le lt19 eb12)
 have ne_b6_b12 : b6 ≠ b12 := Nat.ne_of_lt (Nat.lt_of_lt_of_le lt20 eb12)
 have ne_b7_b12 : b7 ≠ b12 := Nat.ne_of_lt (Nat.lt_of_lt_of_le lt21 eb12)
 have ne_b8_b12 : b8 ≠ b12 := Nat.ne_of_lt (Nat.lt_of_lt_of_le lt22 eb12)
 have ne_b9_b12 : b9 ≠ b12 := Nat.ne_of_lt (Nat.lt_of_lt_of_le lt23 eb12)
 have ne4 := ds8 b10 (by simp)
 have ne5 := ds8 b11 (by simp)
 refine fina_nil ?_
 refine ow_d0 (d_sta ty28 rfl rfl rfl ivF_one hb15 rfl) ?_
 rintro _ w44 ⟨hb18, k44, z10⟩
 replace hb4 := hb4.keep k44 (fun hm => absurd (List.mem_singleton.1 hm) ne_b4_b10)
 replace hb7 := hb7.keep k44 (fun hm => absurd (List.mem_singleton.1 hm) ne_b5_b10)
 replace hb8 := hb8.keep k44 (fun hm => absurd (List.mem_singleton.1 hm) ne_b6_b10)
 replace hb11 := hb11.keep k44 (fun hm => absurd (List.mem_singleton.1 hm) ne_b7_b10)
 replace hb12 := hb12.keep k44 (fun hm => absurd (List.mem_singleton.1 hm) ne_b8_b10)
 replace hb14 := hb14.keep k44 (fun hm => absurd (List.mem_singleton.1 hm) ne_b9_b10)
 replace hb16 := hb16.keep k44 (fun hm => absurd (List.mem_singleton.1 hm) (Ne.symm ne3))
 replace hb17 := hb17.keep k44 (fun hm => absurd (List.mem_singleton.1 hm) (Ne.symm ne4))
 replace hB := hB.new k44 (fun x hx => .inl ((List.mem_singleton.1 hx) ▸ ge_b10))
 clear z10
 replace hb18 : Bk w44 b10 _ [.int .u64 (hh11 0), .int .u64 (hh11 1), .int .u64 (hh11 2), .int .u64 (hh11 3), .int .u64 (hh11 4)] := hb18
 refine ow_d0 (d_sta ty28 rfl rfl rfl ivF_one hb16 rfl) ?_
 rintro _ w45 ⟨hb19, k45, z11⟩
 replace hb4 := hb4.keep k45 (fun hm => absurd (List.mem_singleton.1 hm) ne_b4_b11)
 replace hb7 := hb7.keep k45 (fun hm => absurd (List.mem_singleton.1 hm) ne_b5_b11)
 replace hb8 := hb8.keep k45 (fun hm => absurd (List.mem_singleton.1 hm) ne_b6_b11)
 replace hb11 := hb11.keep k45 (fun hm => absurd (List.mem_singleton.1 hm) ne_b7_b11)
 replace hb12 := hb12.keep k45 (fun hm => absurd (List.mem_singleton.1 hm) ne_b8_b11)
 replace hb14 := hb14.keep k45 (fun hm => absurd (List.mem_singleton.1 hm) ne_b9_b11)
 replace hb17 := hb17.keep k45 (fun hm => absurd (List.mem_singleton.1 hm) (Ne.symm ne5))
 replace hb18 := hb18.keep k45 (fun hm => absurd (List.mem_singleton.1 hm) ne3)
 replace hB := hB.new k45 (fun x hx => .inl ((List.mem_singleton.1 hx) ▸ ge_b11))
 clear z11
 replace hb19 : Bk w45 b11 _ [.int .u64 (hh12 0), .int .u64 (hh12 1), .int .u64 (hh12 2), .int .u64 (hh12 3), .int .u64 (hh12 4)] := hb19
 refine ow_d0 (d_sta ty28 rfl rfl rfl ivF_one hb17 rfl) ?_
 rintro _ w46 ⟨hb20, k46, z12⟩
 replace hb4 := hb4.keep k46 (fun hm => absurd (List.mem_singleton.1 hm) ne_b4_b12)
 replace hb7 := hb7.keep k46 (fun hm => absurd (List.mem_singleton.1 hm) ne_b5_b12)
 replace hb8 := hb8.keep k46 (fun hm => absurd (List.mem_singleton.1 hm) ne_b6_b12)
 replace hb11 := hb11.keep k46 (fun hm => absurd (List.mem_singleton.1 hm) ne_b7_b12)
 replace hb12 := hb12.keep k46 (fun hm => absurd (List.mem_singleton.1 hm) ne_b8_b12)
 replace hb14 := hb14.keep k46 (fun hm => absurd (List.mem_singleton.1 hm) ne_b9_b12)
 replace hb18 := hb18.keep k46 (fun hm => absurd (List.mem_singleton.1 hm) ne4)
 replace hb19 := hb19.keep k46 (fun hm => absurd (List.mem_singleton.1 hm) ne5)
 replace hB := hB.new k46 (fun x hx => .inl ((List.mem_singleton.1 hx) ▸ ge_b12))
 clear z12
 replace hb20 : Bk w46 b12 _ [.int .u64 (hh13 0), .int .u64 (hh13 1), .int .u64 (hh13 2), .int .u64 (hh13 3), .int .u64 (hh13 4)] := hb20
 refine ow_nil (tw_keep [(6, _), (11, _), (12, _), (13, _), (14, _)] ⟨rfl, rfl, rfl, rfl, rfl, trivial⟩ ?_)
 refine tw_seq (tw_plan 13 [0, 1, 3, 4, 6, 7, 9, 10, 2, 5, 8, 11, 12] [2, 5, 8, 11] [] mixed [(11, _), (12, _), (13, _), (14, _), (6, _)] ⟨rfl, rfl, rfl, rfl, rfl, trivial⟩ (by decide +kernel) rfl (fun w47 k47 => ?_))
 replace hb4 := hb4.keep0 k47
 replace hb14 := hb14.keep0 k47
 replace hb18 := hb18.keep0 k47
 replace hb19 := hb19.keep0 k47
 replace hb20 := hb20.keep0 k47
 replace hB := hB.trans k47
 refine pw_g [(11, _)] rfl rfl ⟨rfl, trivial⟩ rfl (fun W' kk => g_ldab (cs' := [_, _, _, _, _]) ag28 ty28 rfl (Bk.keep0 hb14 kk) rfl rfl) ?_
 refine pw_g [(12, _)] rfl rfl ⟨rfl, trivial⟩ rfl (fun W' kk => g_ldab (cs' := [_, _, _, _, _]) ag28 ty28 rfl (Bk.keep0 hb18 kk) rfl rfl) ?_
 refine pw_g [(13, _)] rfl rfl ⟨rfl, trivial⟩ rfl (fun W' kk => g_ldab (cs' := [_, _, _, _, _]) ag28 ty28 rfl (Bk.keep0 hb19 kk) rfl rfl) ?_
 refine pw_g [(14, _)] rfl rfl ⟨rfl, trivial⟩ rfl (fun W' kk => g_ldab (cs' := [_, _, _, _, _]) ag28 ty28 rfl (Bk.keep0 hb20 kk) rfl rfl) ?_
 refine pw_g [(12, _)] rfl rfl ⟨rfl, trivial⟩ rfl (fun W' kk => g_ldab (cs' := [_, _, _, _, _]) ag28 ty28 rfl (Bk.keep0 hb18 kk) rfl rfl) ?_
 refine pw_g [(13, _)] rfl rfl ⟨rfl, trivial⟩ rfl (fun W' kk => g_ldab (cs' := [_, _, _, _, _]) ag28 ty28 rfl (Bk.keep0 hb19 kk) rfl rfl) ?_
 refine pw_g [(11, _)] rfl rfl ⟨rfl, trivial⟩ rfl (fun W' kk => g_ldab (cs' := [_, _, _, _, _]) ag28 ty28 rfl (Bk.keep0 hb14 kk) rfl rfl) ?_
 refine pw_g [(14, _)] rfl rfl ⟨rfl, trivial⟩ rfl (fun W' kk => g_ldab (cs' := [_, _, _, _, _]) ag28 ty28 rfl (Bk.keep0 hb20 kk) rfl rfl) ?_
 refine pw_d [(61, _), (62, _)] rfl rfl ⟨rfl, rfl, trivial⟩ rfl (d_call (vs := [_, _]) rfl (ntimes_any _ _ _ _ E10 E11 _)) ?_
 rintro _ w48 ⟨hh14, rfl, E14, k48⟩
 refine ⟨k48, ?_⟩
 replace hb4 := hb4.keep0 k48
 replace hb14 := hb14.keep0 k48
 replace hb18 := hb18.keep0 k48
 replace hb19 := hb19.keep0 k48
 replace hb20 := hb20.keep0 k48
 replace hB := hB.trans k48
 refine pw_d [(64, _), (65, _)] rfl rfl ⟨rfl, rfl, trivial⟩ rfl (d_call (vs := [_, _]) rfl (ntimes_any _ _ _ _ E12 E13 _)) ?_
 rintro _ w49 ⟨hh15, rfl, E15, k49⟩
 refine ⟨k49, ?_⟩
 replace hb4 := hb4.keep0 k49
 replace hb14 := hb14.keep0 k49
 replace hb18 := hb18.keep0 k49
 replace hb19 := hb19.keep0 k49
 replace hb20 := hb20.keep0 k49
 replace hB := hB.trans k49
 refine pw_d [(67, _), (68, _)] rfl rfl ⟨rfl, rfl, trivial⟩ rfl (d_call (vs := [_, _]) rfl (ntimes_any _ _ _ _ E11 E12 _)) ?_
 rintro _ w50 ⟨hh16, rfl, E16, k50⟩
 refine ⟨k50, ?_⟩
 replace hb4 := hb4.keep0 k50
 replace hb14 := hb14.keep0 k50
 replace hb18 := hb18.keep0 k50
 replace hb19 := hb19.keep0 k50
 replace hb20 := hb20.keep0 k50
 replace hB := hB.trans k50
 refine pw_d [(70, _), (71, _)] rfl rfl ⟨rfl, rfl, trivial⟩ rfl (d_call (vs := [_, _]) rfl (ntimes_any _ _ _ _ E10 E13 _)) ?_
 rintro _ w51 ⟨hh17, rfl, E17, k51⟩
 refine ⟨k51, ?_⟩
 replace hb4 := hb4.keep0 k51
 replace hb14 := hb14.keep0 k51
 replace hb18 := hb18.keep0 k51
 replace hb19 := hb19.keep0 k51
 replace hb20 := hb20.keep0 k51
 replace hB := hB.trans k51
 refine pw_g [(63, _), (66, _), (69, _), (72, _)] rfl rfl ⟨rfl, rfl, rfl, rfl, trivial⟩ rfl (fun W' kk => g_bld (idx := [0, 1, 2, 3]) (xs := [.tmp 63, .tmp 66, .tmp 69, .tmp 72]) (vs := [_, _, _, _]) (css := [[_, _, _, _, _], [_, _, _, _, _], [_, _, _, _, _], [_, _, _, _, _]]) (out := [_, _, _, _, _, _, _, _, _, _, _, _, _, _, _, _, _, _, _, _]) pl30 ty30 rfl rfl ⟨rfl, rfl, rfl, rfl, trivial⟩ rfl rfl) ?_
 refine pw_nil ?_
 refine ow_d0 (d_sta ty30 rfl rfl rfl (by simp only [List.forall_mem_cons]; refine ⟨rfl, rfl, rfl, rfl, rfl, rfl, rfl, rfl, rfl, rfl, rfl, rfl, rfl, rfl, rfl, rfl, rfl, rfl, rfl, rfl, fun v hv => by cases hv⟩) hb4 rfl) ?_
 rintro _ w52 ⟨hb21, k52, z13⟩
 replace hb14 := hb14.keep k52 (fun hm => absurd (List.mem_singleton.1 hm) (Ne.symm ne_b4_b9))
 replace hb18 := hb18.keep k52 (fun hm => absurd (List.mem_singleton.1 hm) (Ne.symm ne_b4_b10))
 replace hb19 := hb19.keep k52 (fun hm => absurd (List.mem_singleton.1 hm) (Ne.symm ne_b4_b11))
 replace hb20 := hb20.keep k52 (fun hm => absurd (List.mem_singleton.1 hm) (Ne.symm ne_b4_b12))
 replace hB := hB.new k52 (fun x hx => .inl ((List.mem_singleton.1 hx) ▸ ge_b4))
 clear z13
 replace hb21 : Bk w52 b4 _ [.int .u64 (hh14 0), .int .u64 (hh14 1), .int .u64 (hh14 2), .int .u64 (hh14 3), .int .u64 (hh14 4), .int .u64 (hh15 0), .int .u64 (hh15 1), .int .u64 (hh15 2), .int .u64 (hh15 3), .int .u64 (hh15 4), .int .u64 (hh16 0), .int .u64 (hh16 1), .int .u64 (hh16 2), .int .u64 (hh16 3), .int .u64 (hh16 4), .int .u64 (hh17 0), .int .u64 (hh17 1), .int .u64 (hh17 2), .int .u64 (hh17 3), .int .u64 (hh17 4)] := hb21
 refine ow_nil (tw_keep [(6, _)] ⟨rfl, trivial⟩ ?_)
 refine tw_retc hfin Try.results58 rfl (run_loadAgg ag30 ty30 ‹_› rfl)  ?_
 exact ⟨(vecN [(hh14 0), (hh14 1), (hh14 2), (hh14 3), (hh14 4), (hh15 0), (hh15 1), (hh15 2), (hh15 3), (hh15 4), (hh16 0), (hh16 1), (hh16 2), (hh16 3), (hh16 4), (hh17 0), (hh17 1), (hh17 2), (hh17 3), (hh17 4)]), rfl, ⟨E14, E15, E16, E17⟩, hB⟩
set_option maxRecDepth 100000 in
set_option maxHeartbeats 1000000 in
theorem pdouble_any (p : Nat → Int) (X1 Y1 Z1 T1 : Fp) (hp : PtEl p X1 Y1 Z1 T1) (w : World) : Rets Try.prog 59 [.agg (iv .u64 20 p).toArray] w (fun v w' => ∃ r, v = .agg (iv .u64 20 r).toArray ∧ PtEl r ((X1 * X1 + Y1 * Y1 - (X1 + Y1) * (X1 + Y1)) * (Z1 * Z1 + Z1 * Z1 + (X1 * X1 - Y1 * Y1))) ((X1 * X1 - Y1 * Y1) * (X1 * X1 + Y1 * Y1)) ((Z1 * Z1 + Z1 * Z1 + (X1 * X1 - Y1 * Y1)) * (X1 * X1 - Y1 * Y1)) ((X1 * X1 + Y1 * Y1 - (X1 + Y1) * (X1 + Y1)) * (X1 * X1 + Y1 * Y1)) ∧ Keep [] w w') := by
 have hB : Keep [] w w := Keep.refl _ _
 refine rets_of_tw Try.func59 rfl (by decide) Try.ntmps59 rfl (fun fin _ hfin => ?_)
 refine tw_seq (tw_region (ow_d (d_box (cs := [.int .u64 (p 0), .int .u64 (p 1), .int .u64 (p 2), .int .u64 (p 3), .int .u64 (p 4), .int .u64 (p 5), .int .u64 (p 6), .int .u64 (p 7), .int .u64 (p 8), .int .u64 (p 9), .int .u64 (p 10), .int .u64 (p 11), .int .u64 (p 12), .int .u64 (p 13), .int .u64 (p 14), .int .u64 (p 15), .int .u64 (p 16), .int .u64 (p 17), .int .u64 (p 18), .int .u64 (p 19)]) rfl rfl) rfl ?_))
 rintro _ w1 ⟨b1, rfl, eb1, hb1, k1, z1⟩
 have ge_b1 : w.heap.size ≤ b1 := by have := hB.size; omega
 replace hB := hB.trans k1
 clear eb1 z1
 refine ow_d (d_alloc ty30) rfl ?_
 rintro _ w2 ⟨b2, rfl, eb2, hb2, k2, z2⟩
 have ge_b2 : w.heap.size ≤ b2 := by have := hB.size; omega
 have ne_b1_b2 : b1 ≠ b2 := by have := hb1.lt; omega
 replace hb1 := hb1.keep0 k2
 replace hB := hB.trans k2
 clear eb2 z2
 refine ow_nil (tw_seq ?_)
 have gs1 := hB.size
 have lt1 := hb1.lt
 have lt2 := hb2.lt
 refine tw_planA 18 [0, 1, 2, 3, 5, 6, 7, 8, 10, 11, 12, 13, 4, 9, 14] [4, 9, 14] [] [(15, 28, [.int .u64 0, .int .u64 0, .int .u64 0, .int .u64 0, .int .u64 0]), (16, 28, [.int .u64 0, .int .u64 0, .int .u64 0, .int .u64 0, .int .u64 0]), (17, 28, [.int .u64 0, .int .u64 0, .int .u64 0, .int .u64 0, .int .u64 0])] mixed [(1, _), (2, _)] ⟨rfl, rfl, trivial⟩ (by decide +kernel) (by decide) (by decide) ?_ (fun x hx => by cases hx) rfl (fun w3 k3 => ?_)
 · simp only [List.forall_mem_cons]; exact ⟨⟨_, _, _, _, _, _, rfl, ty28⟩, ⟨_, _, _, _, _, _, rfl, ty28⟩, ⟨_, _, _, _, _, _, rfl, ty28⟩, fun q hq => by cases hq⟩
 replace hb1 := hb1.keep0 k3
 replace hb2 := hb2.keep0 k3
 replace hB := hB.trans k3
 refine pa_g [(1, _)] rfl rfl ⟨rfl, trivial⟩ rfl (fun W' kk => g_fa Try.underlying30 rfl ty28 (by decide) rfl) ?_
 refine pa_g [(11, _)] rfl rfl ⟨rfl, trivial⟩ rfl (fun W' kk => g_ldab (cs' := [_, _, _, _, _]) ag28 ty28 rfl (Bk.keep0 hb1 kk) rfl rfl) ?_
 refine pa_g [(1, _)] rfl rfl ⟨rfl, trivial⟩ rfl (fun W' kk => g_fa Try.underlying30 rfl ty28 (by decide) rfl) ?_
 refine pa_g [(13, _)] rfl rfl ⟨rfl, trivial⟩ rfl (fun W' kk => g_ldab (cs' := [_, _, _, _, _]) ag28 ty28 rfl (Bk.keep0 hb1 kk) rfl rfl) ?_
 refine pa_g [(1, _)] rfl rfl ⟨rfl, trivial⟩ rfl (fun W' kk => g_fa Try.underlying30 rfl ty28 (by decide) rfl) ?_
 refine pa_g [(16, _)] rfl rfl ⟨rfl, trivial⟩ rfl (fun W' kk => g_ldab (cs' := [_, _, _, _, _]) ag28 ty28 rfl (Bk.keep0 hb1 kk) rfl rfl) ?_
 refine pa_g [(1, _)] rfl rfl ⟨rfl, trivial⟩ rfl (fun W' kk => g_fa Try.underlying30 rfl ty28 (by decide) rfl) ?_
 refine pa_g [(18, _)] rfl rfl ⟨rfl, trivial⟩ rfl (fun W' kk => g_ldab (cs' := [_, _, _, _, _]) ag28 ty28 rfl (Bk.keep0 hb1 kk) rfl rfl) ?_
 refine pa_g [(1, _)] rfl rfl ⟨rfl, trivial⟩ rfl (fun W' kk => g_fa Try.underlying30 rfl ty28 (by decide) rfl) ?_
 refine pa_g [(21, _)] rfl rfl ⟨rfl, trivial⟩ rfl (fun W' kk => g_ldab (cs' := [_, _, _, _, _]) ag28 ty28 rfl (Bk.keep0 hb1 kk) rfl rfl) ?_
 refine pa_g [(1, _)] rfl rfl ⟨rfl, trivial⟩ rfl (fun W' kk => g_fa Try.underlying30 rfl ty28 (by decide) rfl) ?_
 refine pa_g [(23, _)] rfl rfl ⟨rfl, trivial⟩ rfl (fun W' kk => g_ldab (cs' := [_, _, _, _, _]) ag28 ty28 rfl (Bk.keep0 hb1 kk) rfl rfl) ?_
 refine pa_d [(12, _), (14, _)] rfl rfl ⟨rfl, rfl, trivial⟩ rfl (fun w5 k5 => ?_)
 replace hb1 := hb1.keep0 k5
 replace hb2 := hb2.keep0 k5
 replace hB := hB.trans k5
 refine (d_call (vs := [_, _]) rfl (ntimes_any _ _ _ _ hp.1 hp.1 _)).mono ?_
 rintro _ w4 ⟨hh1, rfl, E1, k4⟩
 refine ⟨k4, (fun x hx => by have hx : x ∈ ([] : List Nat) := hx; cases hx), ?_⟩
 replace hb1 := hb1.keep0 k4
 replace hb2 := hb2.keep0 k4
 replace hB := hB.trans k4
 refine pa_d [(17, _), (19, _)] rfl rfl ⟨rfl, rfl, trivial⟩ rfl (fun w7 k7 => ?_)
 replace hb1 := hb1.keep0 k7
 replace hb2 := hb2.keep0 k7
 replace hB := hB.trans k7
 refine (d_call (vs := [_, _]) rfl (ntimes_any _ _ _ _ hp.2.1 hp.2.1 _)).mono ?_
 rintro _ w6 ⟨hh2, rfl, E2, k6⟩
 refine ⟨k6, (fun x hx => by have hx : x ∈ ([] : List Nat) := hx; cases hx), ?_⟩
 replace hb1 := hb1.keep0 k6
 replace hb2 := hb2.keep0 k6
 replace hB := hB.trans k6
 refine pa_d [(22, _), (24, _)] rfl rfl ⟨rfl, rfl, trivial⟩ rfl (fun w9 k9 => ?_)
 replace hb1 := hb1.keep0 k9
 replace hb2 := hb2.keep0 k9
 replace hB := hB.trans k9
 refine (d_call (vs := [_, _]) rfl (ntimes_any _ _ _ _ hp.2.2.1 hp.2.2.1 _)).mono ?_
 rintro _ w8 ⟨hh3, rfl, E3, k8⟩
 refine ⟨k8, (fun x hx => by have hx : x ∈ ([] : List Nat) := hx; cases hx), ?_⟩
 replace hb1 := hb1.keep0 k8
 replace hb2 := hb2.keep0 k8
 replace hB := hB.trans k8
 refine pa_nil (fun w10 k10 => ?_)
 replace hb1 := hb1.keep0 k10
 replace hb2 := hb2.keep0 k10
 replace hB := hB.trans k10
 intro b3 eb3 lb1 hb3 ds1 sp1
 have ge_b3 : w.heap.size ≤ b3 := Nat.le_trans gs1 eb3
 have ne_b1_b3 : b1 ≠ b3 := Nat.ne_of_lt (Nat.lt_of_lt_of_le lt1 eb3)
 have ne_b2_b3 : b2 ≠ b3 := Nat.ne_of_lt (Nat.lt_of_lt_of_le lt2 eb3)
 intro b4 eb4 lb2 hb4 ds2 sp2
 have ge_b4 : w.heap.size ≤ b4 := Nat.le_trans gs1 eb4
 have ne_b1_b4 : b1 ≠ b4 := Nat.ne_of_lt (Nat.lt_of_lt_of_le lt1 eb4)
 have ne_b2_b4 : b2 ≠ b4 := Nat.ne_of_lt (Nat.lt_of_lt_of_le lt2 eb4)
 have ne1 := ds2 b3 (by simp)
 intro b5 eb5 lb3 hb5 ds3 sp3
 have ge_b5 : w.heap.size ≤ b5 := Nat.le_trans gs1 eb5
 have ne_b1_b5 : b1 ≠ b5 := Nat.ne_of_lt (Nat.lt_of_lt_of_le lt1 eb5)
 have ne_b2_b5 : b2 ≠ b5 := Nat.ne_of_lt (Nat.lt_of_lt_of_le lt2 eb5)
 have ne2 := ds3 b3 (by simp)
 have ne3 := ds3 b4 (by simp)
 refine fina_nil ?_
 refine ow_d0 (d_sta ty28 rfl rfl rfl ivF_one hb3 rfl) ?_
 rintro _ w11 ⟨hb6, k11, z3⟩
 replace hb1 := hb1.keep k11 (fun hm => absurd (List.mem_singleton.1 hm) ne_b1_b3)
 replace hb2 := hb2.keep k11 (fun hm => absurd (List.mem_singleton.1 hm) ne_b2_b3)
 replace hb4 := hb4.keep k11 (fun hm => absurd (List.mem_singleton.1 hm) (Ne.symm ne1))
 replace hb5 := hb5.keep k11 (fun hm => absurd (List.mem_singleton.1 hm) (Ne.symm ne2))
 replace hB := hB.new k11 (fun x hx => .inl ((List.mem_singleton.1 hx) ▸ ge_b3))
 clear z3
 replace hb6 : Bk w11 b3 _ [.int .u64 (hh1 0), .int .u64 (hh1 1), .int .u64 (hh1 2), .int .u64 (hh1 3), .int .u64 (hh1 4)] := hb6
 refine ow_d0 (d_sta ty28 rfl rfl rfl ivF_one hb4 rfl) ?_
 rintro _ w12 ⟨hb7, k12, z4⟩
 replace hb1 := hb1.keep k12 (fun hm => absurd (List.mem_singleton.1 hm) ne_b1_b4)
 replace hb2 := hb2.keep k12 (fun hm => absurd (List.mem_singleton.1 hm) ne_b2_b4)
 replace hb5 := hb5.keep k12 (fun hm => absurd (List.mem_singleton.1 hm) (Ne.symm ne3))
 replace hb6 := hb6.keep k12 (fun hm => absurd (List.mem_singleton.1 hm) ne1)
 replace hB := hB.new k12 (fun x hx => .inl ((List.mem_singleton.1 hx) ▸ ge_b4))
 clear z4
 replace hb7 : Bk w12 b4 _ [.int .u64 (hh2 0), .int .u64 (hh2 1), .int .u64 (hh2 2), .int .u64 (hh2 3), .int .u64 (hh2 4)] := hb7
 refine ow_d0 (d_sta ty28 rfl rfl rfl ivF_one hb5 rfl) ?_
 rintro _ w13 ⟨hb8, k13, z5⟩
 replace hb1 := hb1.keep k13 (fun hm => absurd (List.mem_singleton.1 hm) ne_b1_b5)
 replace hb2 := hb2.keep k13 (fun hm => absurd (List.mem_singleton.1 hm) ne_b2_b5)
 replace hb6 := hb6.keep k13 (fun hm => absurd (List.mem_singleton.1 hm) ne2)
 replace hb7 := hb7.keep k13 (fun hm => absurd (List.mem_singleton.1 hm) ne3)
 replace hB := hB.new k13 (fun x hx => .inl ((List.mem_singleton.1 hx) ▸ ge_b5))
 clear z5
 replace hb8 : Bk w13 b5 _ [.int .u64 (hh3 0), .int .u64 (hh3 1), .int .u64 (hh3 2), .int .u64 (hh3 3), .int .u64 (hh3 4)] := hb8
 refine ow_nil (tw_keep [(1, _), (2, _), (3, _), (4, _), (5, _)] ⟨rfl, rfl, rfl, rfl, rfl, trivial⟩ ?_)
 refine tw_seq (tw_region (ow_g (g_fa Try.underlying30 rfl ty28 (by decide) rfl) rfl ?_))
 refine ow_g (g_ldab (cs' := [_, _, _, _, _]) ag28 ty28 rfl hb1 rfl rfl) rfl ?_
 refine ow_g (g_fa Try.underlying30 rfl ty28 (by decide) rfl) rfl ?_
 refine ow_g (g_ldab (cs' := [_, _, _, _, _]) ag28 ty28 rfl hb1 rfl rfl) rfl ?_
 refine ow_d (d_call (vs := [_, _]) rfl (nplus_any _ _ _ _ hp.1 hp.2.1 _)) rfl ?_
 rintro _ w14 ⟨hh4, rfl, E4, k14⟩
 replace hb1 := hb1.keep0 k14
 replace hb2 := hb2.keep0 k14
 replace hb6 := hb6.keep0 k14
 replace hb7 := hb7.keep0 k14
 replace hb8 := hb8.keep0 k14
 replace hB := hB.trans k14
 refine ow_d (d_alloc ty28) rfl ?_
 rintro _ w15 ⟨b6, rfl, eb6, hb9, k15, z6⟩
 have ge_b6 : w.heap.size ≤ b6 := by have := hB.size; omega
 have ne_b1_b6 : b1 ≠ b6 := by have := hb1.lt; omega
 have ne_b2_b6 : b2 ≠ b6 := by have := hb2.lt; omega
 have ne_b3_b6 : b3 ≠ b6 := by have := hb6.lt; omega
 have ne_b4_b6 : b4 ≠ b6 := by have := hb7.lt; omega
 have ne_b5_b6 : b5 ≠ b6 := by have := hb8.lt; omega
 replace hb1 := hb1.keep0 k15
 replace hb2 := hb2.keep0 k15
 replace hb6 := hb6.keep0 k15
 replace hb7 := hb7.keep0 k15
 replace hb8 := hb8.keep0 k15
 replace hB := hB.trans k15
 clear eb6 z6
 refine ow_d0 (d_sta ty28 rfl rfl rfl ivF_one hb9 rfl) ?_
 rintro _ w16 ⟨hb10, k16, z7⟩
 replace hb1 := hb1.keep k16 (fun hm => absurd (List.mem_singleton.1 hm) ne_b1_b6)
 replace hb2 := hb2.keep k16 (fun hm => absurd (List.mem_singleton.1 hm) ne_b2_b6)
 replace hb6 := hb6.keep k16 (fun hm => absurd (List.mem_singleton.1 hm) ne_b3_b6)
 replace hb7 := hb7.keep k16 (fun hm => absurd (List.mem_singleton.1 hm) ne_b4_b6)
 replace hb8 := hb8.keep k16 (fun hm => absurd (List.mem_singleton.1 hm) ne_b5_b6)
 replace hB := hB.new k16 (fun x hx => .inl ((List.mem_singleton.1 hx) ▸ ge_b6))
 clear z7
 replace hb10 : Bk w16 b6 _ [.int .u64 (hh4 0), .int .u64 (hh4 1), .int .u64 (hh4 2), .int .u64 (hh4 3), .int .u64 (hh4 4)] := hb10
 refine ow_nil (tw_seq ?_)
 have gs2 := hB.size
 have lt3 := hb2.lt
 have lt4 := hb6.lt
 have lt5 := hb7.lt
 have lt6 := hb8.lt
 have lt7 := hb10.lt
 refine tw_planA 8 [0, 1, 3, 4, 2, 5] [2, 5] [] [(6, 28, [.int .u64 0, .int .u64 0, .int .u64 0, .int .u64 0, .int .u64 0]), (7, 28, [.int .u64 0, .int .u64 0, .int .u64 0, .int .u64 0, .int .u64 0])] mixed [(3, _), (4, _), (2, _), (5, _), (6, _)] ⟨rfl, rfl, rfl, rfl, rfl, trivial⟩ (by decide +kernel) (by decide) (by decide) ?_ (fun x hx => by cases hx) rfl (fun w17 k17 => ?_)
 · simp only [List.forall_mem_cons]; exact ⟨⟨_, _, _, _, _, _, rfl, ty28⟩, ⟨_, _, _, _, _, _, rfl, ty28⟩, fun q hq => by cases hq⟩
 replace hb2 := hb2.keep0 k17
 replace hb6 := hb6.keep0 k17
 replace hb7 := hb7.keep0 k17
 replace hb8 := hb8.keep0 k17
 replace hb10 := hb10.keep0 k17
 replace hB := hB.trans k17
 refine pa_g [(3, _)] rfl rfl ⟨rfl, trivial⟩ rfl (fun W' kk => g_ldab (cs' := [_, _, _, _, _]) ag28 ty28 rfl (Bk.keep0 hb6 kk) rfl rfl) ?_
 refine pa_g [(4, _)] rfl rfl ⟨rfl, trivial⟩ rfl (fun W' kk => g_ldab (cs' := [_, _, _, _, _]) ag28 ty28 rfl (Bk.keep0 hb7 kk) rfl rfl) ?_
 refine pa_g [(3, _)] rfl rfl ⟨rfl, trivial⟩ rfl (fun W' kk => g_ldab (cs' := [_, _, _, _, _]) ag28 ty28 rfl (Bk.keep0 hb6 kk) rfl rfl) ?_
 refine pa_g [(4, _)] rfl rfl ⟨rfl, trivial⟩ rfl (fun W' kk => g_ldab (cs' := [_, _, _, _, _]) ag28 ty28 rfl (Bk.keep0 hb7 kk) rfl rfl) ?_
 refine pa_d [(31, _), (32, _)] rfl rfl ⟨rfl, rfl, trivial⟩ rfl (fun w19 k19 => ?_)
 replace hb2 := hb2.keep0 k19
 replace hb6 := hb6.keep0 k19
 replace hb7 := hb7.keep0 k19
 replace hb8 := hb8.keep0 k19
 replace hb10 := hb10.keep0 k19
 replace hB := hB.trans k19
 refine (d_call (vs := [_, _]) rfl (nplus_any _ _ _ _ E1 E2 _)).mono ?_
 rintro _ w18 ⟨hh5, rfl, E5, k18⟩
 refine ⟨k18, (fun x hx => by have hx : x ∈ ([] : List Nat) := hx; cases hx), ?_⟩
 replace hb2 := hb2.keep0 k18
 replace hb6 := hb6.keep0 k18
 replace hb7 := hb7.keep0 k18
 replace hb8 := hb8.keep0 k18
 replace hb10 := hb10.keep0 k18
 replace hB := hB.trans k18
 refine pa_d [(34, _), (35, _)] rfl rfl ⟨rfl, rfl, trivial⟩ rfl (fun w21 k21 => ?_)
 replace hb2 := hb2.keep0 k21
 replace hb6 := hb6.keep0 k21
 replace hb7 := hb7.keep0 k21
 replace hb8 := hb8.keep0 k21
 replace hb10 := hb10.keep0 k21
 replace hB := hB.trans k21
 refine (d_call (vs := [_, _]) rfl (nminus_any _ _ _ _ E1 E2 _)).mono ?_
 rintro _ w20 ⟨hh6, rfl, E6, k20⟩
 refine ⟨k20, (fun x hx => by have hx : x ∈ ([] : List Nat) := hx; cases hx), ?_⟩
 replace hb2 := hb2.keep0 k20
 replace hb6 := hb6.keep0 k20
 replace hb7 := hb7.keep0 k20
 replace hb8 := hb8.keep0 k20
 replace hb10 := hb10.keep0 k20
 replace hB := hB.trans k20
 refine pa_nil (fun w22 k22 => ?_)
 replace hb2 := hb2.keep0 k22
 replace hb6 := hb6.keep0 k22
 replace hb7 := hb7.keep0 k22
 replace hb8 := hb8.keep0 k22
 replace hb10 := hb10.keep0 k22
 replace hB := hB.trans k22
 intro b7 eb7 lb4 hb11 ds4 sp4
 have ge_b7 : w.heap.size ≤ b7 := Nat.le_trans gs2 eb7
 have ne_b2_b7 : b2 ≠ b7 := Nat.ne_of_lt (Nat.lt_of_lt_of_le lt3 eb7)
 have ne_b3_b7 : b3 ≠ b7 := Nat.ne_of_lt (Nat.lt_of_lt_of_le lt4 eb7)
 have ne_b4_b7 : b4 ≠ b7 := Nat.ne_of_lt (Nat.lt_of_lt_of_le lt5 eb7)
 have ne_b5_b7 : b5 ≠ b7 := Nat.ne_of_lt (Nat.lt_of_lt_of_le lt6 eb7)
 have ne_b6_b7 : b6 ≠ b7 := Nat.ne_of_lt (Nat.lt_of_lt_of_le lt7 eb7)
 intro b8 eb8 lb5 hb12 ds5 sp5
 have ge_b8 : w.heap.size ≤ b8 := Nat.le_trans gs2 eb8
 have ne_b2_b8 : b2 ≠ b8 := Nat.ne_of_lt (Nat.lt_of_lt_of_le lt3 eb8)
 have ne_b3_b8 : b3 ≠ b8 := Nat.ne_of_lt (Nat.lt_of_lt_of_le lt4 eb8)
 have ne_b4_b8 : b4 ≠ b8 := Nat.ne_of_lt (Nat.lt_of_lt_of_le lt5 eb8)
 have ne_b5_b8 : b5 ≠ b8 := Nat.ne_of_lt (Nat.lt_of_lt_of_le lt6 eb8)
 have ne_b6_b8 : b6 ≠ b8 := Nat.ne_of_lt (Nat.lt_of_lt_of_le lt7 eb8)
 have ne4 := ds5 b7 (by simp)
 refine fina_nil ?_
 refine ow_d0 (d_sta ty28 rfl rfl rfl ivF_one hb11 rfl) ?_
 rintro _ w23 ⟨hb13, k23, z8⟩
 replace hb2 := hb2.keep k23 (fun hm => absurd (List.mem_singleton.1 hm) ne_b2_b7)
 replace hb6 := hb6.keep k23 (fun hm => absurd (List.mem_singleton.1 hm) ne_b3_b7)
 replace hb7 := hb7.keep k23 (fun hm => absurd (List.mem_singleton.1 hm) ne_b4_b7)
 replace hb8 := hb8.keep k23 (fun hm => absurd (List.mem_singleton.1 hm) ne_b5_b7)
 replace hb10 := hb10.keep k23 (fun hm => absurd (List.mem_singleton.1 hm) ne_b6_b7)
 replace hb12 := hb12.keep k23 (fun hm => absurd (List.mem_singleton.1 hm) (Ne.symm ne4))
 replace hB := hB.new k23 (fun x hx => .inl ((List.mem_singleton.1 hx) ▸ ge_b7))
 clear z8
 replace hb13 : Bk w23 b7 _ [.int .u64 (hh5 0), .int .u64 (hh5 1), .int .u64 (hh5 2), .int .u64 (hh5 3), .int .u64 (hh5 4)] := hb13
 refine ow_d0 (d_sta ty28 rfl rfl rfl ivF_one hb12 rfl) ?_
 rintro _ w24 ⟨hb14, k24, z9⟩
 replace hb2 := hb2.keep k24 (fun hm => absurd (List.mem_singleton.1 hm) ne_b2_b8)
 replace hb6 := hb6.keep k24 (fun hm => absurd (List.mem_singleton.1 hm) ne_b3_b8)
 replace hb7 := hb7.keep k24 (fun hm => absurd (List.mem_singleton.1 hm) ne_b4_b8)
 replace hb8 := hb8.keep k24 (fun hm => absurd (List.mem_singleton.1 hm) ne_b5_b8)
 replace hb10 := hb10.keep k24 (fun hm => absurd (List.mem_singleton.1 hm) ne_b6_b8)
 replace hb13 := hb13.keep k24 (fun hm => absurd (List.mem_singleton.1 hm) ne4)
 replace hB := hB.new k24 (fun x hx => .inl ((List.mem_singleton.1 hx) ▸ ge_b8))
 clear z9
 replace hb14 : Bk w24 b8 _ [.int .u64 (hh6 0), .int .u64 (hh6 1), .int .u64 (hh6 2), .int .u64 (hh6 3), .int .u64 (hh6 4)] := hb14
 refine ow_nil (tw_seq ?_)
 have gs3 := hB.size
 have lt8 := hb2.lt
 have lt9 := hb8.lt
 have lt10 := hb10.lt
 have lt11 := hb13.lt
 have lt12 := hb14.lt
 refine tw_planA 12 [0, 1, 2, 5, 6, 8, 3, 4, 7, 9] [3, 4, 7, 9] [] [(10, 28, [.int .u64 0, .int .u64 0, .int .u64 0, .int .u64 0, .int .u64 0]), (11, 28, [.int .u64 0, .int .u64 0, .int .u64 0, .int .u64 0, .int .u64 0])] mixed [(7, _), (6, _), (5, _), (8, _), (2, _)] ⟨rfl, rfl, rfl, rfl, rfl, trivial⟩ (by decide +kernel) (by decide) (by decide) ?_ (fun x hx => by cases hx) rfl (fun w25 k25 => ?_)
 · simp only [List.forall_mem_cons]; exact ⟨⟨_, _, _, _, _, _, rfl, ty28⟩, ⟨_, _, _, _, _, _, rfl, ty28⟩, fun q hq => by cases hq⟩
 replace hb2 := hb2.keep0 k25
 replace hb8 := hb8.keep0 k25
 replace hb10 := hb10.keep0 k25
 replace hb13 := hb13.keep0 k25
 replace hb14 := hb14.keep0 k25
 replace hB := hB.trans k25
 refine pa_g [(7, _)] rfl rfl ⟨rfl, trivial⟩ rfl (fun W' kk => g_ldab (cs' := [_, _, _, _, _]) ag28 ty28 rfl (Bk.keep0 hb13 kk) rfl rfl) ?_
 refine pa_g [(6, _)] rfl rfl ⟨rfl, trivial⟩ rfl (fun W' kk => g_ldab (cs' := [_, _, _, _, _]) ag28 ty28 rfl (Bk.keep0 hb10 kk) rfl rfl) ?_
 refine pa_g [(6, _)] rfl rfl ⟨rfl, trivial⟩ rfl (fun W' kk => g_ldab (cs' := [_, _, _, _, _]) ag28 ty28 rfl (Bk.keep0 hb10 kk) rfl rfl) ?_
 refine pa_g [(5, _)] rfl rfl ⟨rfl, trivial⟩ rfl (fun W' kk => g_ldab (cs' := [_, _, _, _, _]) ag28 ty28 rfl (Bk.keep0 hb8 kk) rfl rfl) ?_
 refine pa_g [(5, _)] rfl rfl ⟨rfl, trivial⟩ rfl (fun W' kk => g_ldab (cs' := [_, _, _, _, _]) ag28 ty28 rfl (Bk.keep0 hb8 kk) rfl rfl) ?_
 refine pa_g [(8, _)] rfl rfl ⟨rfl, trivial⟩ rfl (fun W' kk => g_ldab (cs' := [_, _, _, _, _]) ag28 ty28 rfl (Bk.keep0 hb14 kk) rfl rfl) ?_
 refine pa_d [(38, _), (39, _)] rfl rfl ⟨rfl, rfl, trivial⟩ rfl (fun w27 k27 => ?_)
 replace hb2 := hb2.keep0 k27
 replace hb8 := hb8.keep0 k27
 replace hb10 := hb10.keep0 k27
 replace hb13 := hb13.keep0 k27
 replace hb14 := hb14.keep0 k27
 replace hB := hB.trans k27
 refine (d_call (vs := [_, _]) rfl (ntimes_any _ _ _ _ E4 E4 _)).mono ?_
 rintro _ w26 ⟨hh7, rfl, E7, k26⟩
 refine ⟨k26, (fun x hx => by have hx : x ∈ ([] : List Nat) := hx; cases hx), ?_⟩
 replace hb2 := hb2.keep0 k26
 replace hb8 := hb8.keep0 k26
 replace hb10 := hb10.keep0 k26
 replace hb13 := hb13.keep0 k26
 replace hb14 := hb14.keep0 k26
 replace hB := hB.trans k26
 refine pa_d [(37, _), (40, _)] rfl rfl ⟨rfl, rfl, trivial⟩ rfl (fun w29 k29 => ?_)
 replace hb2 := hb2.keep0 k29
 replace hb8 := hb8.keep0 k29
 replace hb10 := hb10.keep0 k29
 replace hb13 := hb13.keep0 k29
 replace hb14 := hb14.keep0 k29
 replace hB := hB.trans k29
 refine (d_call (vs := [_, _]) rfl (nminus_any _ _ _ _ E5 E7 _)).mono ?_
 rintro _ w28 ⟨hh8, rfl, E8, k28⟩
 refine ⟨k28, (fun x hx => by have hx : x ∈ ([] : List Nat) := hx; cases hx), ?_⟩
 replace hb2 := hb2.keep0 k28
 replace hb8 := hb8.keep0 k28
 replace hb10 := hb10.keep0 k28
 replace hb13 := hb13.keep0 k28
 replace hb14 := hb14.keep0 k28
 replace hB := hB.trans k28
 refine pa_d [(42, _), (43, _)] rfl rfl ⟨rfl, rfl, trivial⟩ rfl (fun w31 k31 => ?_)
 replace hb2 := hb2.keep0 k31
 replace hb8 := hb8.keep0 k31
 replace hb10 := hb10.keep0 k31
 replace hb13 := hb13.keep0 k31
 replace hb14 := hb14.keep0 k31
 replace hB := hB.trans k31
 refine (d_call (vs := [_, _]) rfl (nplus_any _ _ _ _ E3 E3 _)).mono ?_
 rintro _ w30 ⟨hh9, rfl, E9, k30⟩
 refine ⟨k30, (fun x hx => by have hx : x ∈ ([] : List Nat) := hx; cases hx), ?_⟩
 replace hb2 := hb2.keep0 k30
 replace hb8 := hb8.keep0 k30
 replace hb10 := hb10.keep0 k30
 replace hb13 := hb13.keep0 k30
 replace hb14 := hb14.keep0 k30
 replace hB := hB.trans k30
 refine pa_d [(44, _), (45, _)] rfl rfl ⟨rfl, rfl, trivial⟩ rfl (fun w33 k33 => ?_)
 replace hb2 := hb2.keep0 k33
 replace hb8 := hb8.keep0 k33
 replace hb10 := hb10.keep0 k33
 replace hb13 := hb13.keep0 k33
 replace hb14 := hb14.keep0 k33
 replace hB := hB.trans k33
 refine (d_call (vs := [_, _]) rfl (nplus_any _ _ _ _ E9 E6 _)).mono ?_
 rintro _ w32 ⟨hh10, rfl, E10, k32⟩
 refine ⟨k32, (fun x hx => by have hx : x ∈ ([] : List Nat) := hx; cases hx), ?_⟩
 replace hb2 := hb2.keep0 k32
 replace hb8 := hb8.keep0 k32
 replace hb10 := hb10.keep0 k32
 replace hb13 := hb13.keep0 k32
 replace hb14 := hb14.keep0 k32
 replace hB := hB.trans k32
 refine pa_nil (fun w34 k34 => ?_)
 replace hb2 := hb2.keep0 k34
 replace hb8 := hb8.keep0 k34
 replace hb10 := hb10.keep0 k34
 replace hb13 := hb13.keep0 k34
 replace hb14 := hb14.keep0 k34
 replace hB := hB.trans k34
 intro b9 eb9 lb6 hb15 ds6 sp6
 have ge_b9 : w.heap.size ≤ b9 := Nat.le_trans gs3 eb9
 have ne_b2_b9 : b2 ≠ b9 := Nat.ne_of_lt (Nat.lt_of_lt_of_le lt8 eb9)
 have ne_b5_b9 : b5 ≠ b9 := Nat.ne_of_lt (Nat.lt_of_lt_of_le lt9 eb9)
 have ne_b6_b9 : b6 ≠ b9 := Nat.ne_of_lt (Nat.lt_of_lt_of_le lt10 eb9)
 have ne_b7_b9 : b7 ≠ b9 := Nat.ne_of_lt (Nat.lt_of_lt_of_le lt11 eb9)
 have ne_b8_b9 : b8 ≠ b9 := Nat.ne_of_lt (Nat.lt_of_lt_of_le lt12 eb9)
 intro b10 eb10 lb7 hb16 ds7 sp7
 have ge_b10 : w.heap.size ≤ b10 := Nat.le_trans gs3 eb10
 have ne_b2_b10 : b2 ≠ b10 := Nat.ne_of_lt (Nat.lt_of_lt_of_le lt8 eb10)
 have ne_b5_b10 : b5 ≠ b10 := Nat.ne_of_lt (Nat.lt_of_lt_of_le lt9 eb10)
 have ne_b6_b10 : b6 ≠ b10 := Nat.ne_of_lt (Nat.lt_of_lt_of_le lt10 eb10)
 have ne_b7_b10 : b7 ≠ b10 := Nat.ne_of_lt (Nat.lt_of_lt_of_le lt11 eb10)
 have ne_b8_b10 : b8 ≠ b10 := Nat.ne_of_lt (Nat.lt_of_lt_of_le lt12 eb10)
 have ne5 := ds7 b9 (by simp)
 refine fina_nil ?_
 refine ow_d0 (d_sta ty28 rfl rfl rfl ivF_one hb15 rfl) ?_
 rintro _ w35 ⟨hb17, k35, z10⟩
 replace hb2 := hb2.keep k35 (fun hm => absurd (List.mem_singleton.1 hm) ne_b2_b9)
 replace hb8 := hb8.keep k35 (fun hm => absurd (List.mem_singleton.1 hm) ne_b5_b9)
 replace hb10 := hb10.keep k35 (fun hm => absurd (List.mem_singleton.1 hm) ne_b6_b9)
 replace hb13 := hb13.keep k35 (fun hm => absurd (List.mem_singleton.1 hm) ne_b7_b9)
 replace hb14 := hb14.keep k35 (fun hm => absurd (List.mem_singleton.1 hm) ne_b8_b9)
 replace hb16 := hb16.keep k35 (fun hm => absurd (List.mem_singleton.1 hm) (Ne.symm ne5))
 replace hB := hB.new k35 (fun x hx => .inl ((List.mem_singleton.1 hx) ▸ ge_b9))
 clear z10
 replace hb17 : Bk w35 b9 _ [.int .u64 (hh8 0), .int .u64 (hh8 1), .int .u64 (hh8 2), .int .u64 (hh8 3), .int .u64 (hh8 4)] := hb17
 refine ow_d0 (d_sta ty28 rfl rfl rfl ivF_one hb16 rfl) ?_
 rintro _ w36 ⟨hb18, k36, z11⟩
 replace hb2 := hb2.keep k36 (fun hm => absurd (List.mem_singleton.1 hm) ne_b2_b10)
 replace hb8 := hb8.keep k36 (fun hm => absurd (List.mem_singleton.1 hm) ne_b5_b10)
 replace hb10 := hb10.keep k36 (fun hm => absurd (List.mem_singleton.1 hm) ne_b6_b10)
 replace hb13 := hb13.keep k36 (fun hm => absurd (List.mem_singleton.1 hm) ne_b7_b10)
 replace hb14 := hb14.keep k36 (fun hm => absurd (List.mem_singleton.1 hm) ne_b8_b10)
 replace hb17 := hb17.keep k36 (fun hm => absurd (List.mem_singleton.1 hm) ne5)
 replace hB := hB.new k36 (fun x hx => .inl ((List.mem_singleton.1 hx) ▸ ge_b10))
 clear z11
 replace hb18 : Bk w36 b10 _ [.int .u64 (hh10 0), .int .u64 (hh10 1), .int .u64 (hh10 2), .int .u64 (hh10 3), .int .u64 (hh10 4)] := hb18
 refine ow_nil (tw_keep [(7, _), (8, _), (2, _), (9, _), (10, _)] ⟨rfl, rfl, rfl, rfl, rfl, trivial⟩ ?_)
 refine tw_seq (tw_plan 13 [0, 1, 3, 4, 6, 7, 9, 10, 2, 5, 8, 11, 12] [2, 5, 8, 11] [] mixed [(9, _), (10, _), (8, _), (7, _), (2, _)] ⟨rfl, rfl, rfl, rfl, rfl, trivial⟩ (by decide +kernel) rfl (fun w37 k37 => ?_))
 replace hb2 := hb2.keep0 k37
 replace hb13 := hb13.keep0 k37
 replace hb14 := hb14.keep0 k37
 replace hb17 := hb17.keep0 k37
 replace hb18 := hb18.keep0 k37
 replace hB := hB.trans k37
 refine pw_g [(9, _)] rfl rfl ⟨rfl, trivial⟩ rfl (fun W' kk => g_ldab (cs' := [_, _, _, _, _]) ag28 ty28 rfl (Bk.keep0 hb17 kk) rfl rfl) ?_
 refine pw_g [(10, _)] rfl rfl ⟨rfl, trivial⟩ rfl (fun W' kk => g_ldab (cs' := [_, _, _, _, _]) ag28 ty28 rfl (Bk.keep0 hb18 kk) rfl rfl) ?_
 refine pw_g [(8, _)] rfl rfl ⟨rfl, trivial⟩ rfl (fun W' kk => g_ldab (cs' := [_, _, _, _, _]) ag28 ty28 rfl (Bk.keep0 hb14 kk) rfl rfl) ?_
 refine pw_g [(7, _)] rfl rfl ⟨rfl, trivial⟩ rfl (fun W' kk => g_ldab (cs' := [_, _, _, _, _]) ag28 ty28 rfl (Bk.keep0 hb13 kk) rfl rfl) ?_
 refine pw_g [(10, _)] rfl rfl ⟨rfl, trivial⟩ rfl (fun W' kk => g_ldab (cs' := [_, _, _, _, _]) ag28 ty28 rfl (Bk.keep0 hb18 kk) rfl rfl) ?_
 refine pw_g [(8, _)] rfl rfl ⟨rfl, trivial⟩ rfl (fun W' kk => g_ldab (cs' := [_, _, _, _, _]) ag28 ty28 rfl (Bk.keep0 hb14 kk) rfl rfl) ?_
 refine pw_g [(9, _)] rfl rfl ⟨rfl, trivial⟩ rfl (fun W' kk => g_ldab (cs' := [_, _, _, _, _]) ag28 ty28 rfl (Bk.keep0 hb17 kk) rfl rfl) ?_
 refine pw_g [(7, _)] rfl rfl ⟨rfl, trivial⟩ rfl (fun W' kk => g_ldab (cs' := [_, _, _, _, _]) ag28 ty28 rfl (Bk.keep0 hb13 kk) rfl rfl) ?_
 refine pw_d [(47, _), (48, _)] rfl rfl ⟨rfl, rfl, trivial⟩ rfl (d_call (vs := [_, _]) rfl (ntimes_any _ _ _ _ E8 E10 _)) ?_
 rintro _ w38 ⟨hh11, rfl, E11, k38⟩
 refine ⟨k38, ?_⟩
 replace hb2 := hb2.keep0 k38
 replace hb13 := hb13.keep0 k38
 replace hb14 := hb14.keep0 k38
 replace hb17 := hb17.keep0 k38
 replace hb18 := hb18.keep0 k38
 replace hB := hB.trans k38
 refine pw_d [(50, _), (51, _)] rfl rfl ⟨rfl, rfl, trivial⟩ rfl (d_call (vs := [_, _]) rfl (ntimes_any _ _ _ _ E6 E5 _)) ?_
 rintro _ w39 ⟨hh12, rfl, E12, k39⟩
 refine ⟨k39, ?_⟩
 replace hb2 := hb2.keep0 k39
 replace hb13 := hb13.keep0 k39
 replace hb14 := hb14.keep0 k39
 replace hb17 := hb17.keep0 k39
 replace hb18 := hb18.keep0 k39
 replace hB := hB.trans k39
 refine pw_d [(53, _), (54, _)] rfl rfl ⟨rfl, rfl, trivial⟩ rfl (d_call (vs := [_, _]) rfl (ntimes_any _ _ _ _ E10 E6 _)) ?_
 rintro _ w40 ⟨hh13, rfl, E13, k40⟩
 refine ⟨k40, ?_⟩
 replace hb2 := hb2.keep0 k40
 replace hb13 := hb13.keep0 k40
 replace hb14 := hb14.keep0 k40
 replace hb17 := hb17.keep0 k40
 replace hb18 := hb18.keep0 k40
 replace hB := hB.trans k40
 refine pw_d [(56, _), (57, _)] rfl rfl ⟨rfl, rfl, trivial⟩ rfl (d_call (vs := [_, _]) rfl (ntimes_any _ _ _ _ E8 E5 _)) ?_
 rintro _ w41 ⟨hh14, rfl, E14, k41⟩
 refine ⟨k41, ?_⟩
 replace hb2 := hb2.keep0 k41
 replace hb13 := hb13.keep0 k41
 replace hb14 := hb14.keep0 k41
 replace hb17 := hb17.keep0 k41
 replace hb18 := hb18.keep0 k41
 replace hB := hB.trans k41
 refine pw_g [(49, _), (52, _), (55, _), (58, _)] rfl rfl ⟨rfl, rfl, rfl, rfl, trivial⟩ rfl (fun W' kk => g_bld (idx := [0, 1, 2, 3]) (xs := [.tmp 49, .tmp 52, .tmp 55, .tmp 58]) (vs := [_, _, _, _]) (css := [[_, _, _, _, _], [_, _, _, _, _], [_, _, _, _, _], [_, _, _, _, _]]) (out := [_, _, _, _, _, _, _, _, _, _, _, _, _, _, _, _, _, _, _, _]) pl30 ty30 rfl rfl ⟨rfl, rfl, rfl, rfl, trivial⟩ rfl rfl) ?_
 refine pw_nil ?_
 refine ow_d0 (d_sta ty30 rfl rfl rfl (by simp only [List.forall_mem_cons]; refine ⟨rfl, rfl, rfl, rfl, rfl, rfl, rfl, rfl, rfl, rfl, rfl, rfl, rfl, rfl, rfl, rfl, rfl, rfl, rfl, rfl, fun v hv => by cases hv⟩) hb2 rfl) ?_
 rintro _ w42 ⟨hb19, k42, z12⟩
 replace hb13 := hb13.keep k42 (fun hm => absurd (List.mem_singleton.1 hm) (Ne.symm ne_b2_b7))
 replace hb14 := hb14.keep k42 (fun hm => absurd (List.mem_singleton.1 hm) (Ne.symm ne_b2_b8))
 replace hb17 := hb17.keep k42 (fun hm => absurd (List.mem_singleton.1 hm) (Ne.symm ne_b2_b9))
 replace hb18 := hb18.keep k42 (fun hm => absurd (List.mem_singleton.1 hm) (Ne.symm ne_b2_b10))
 replace hB := hB.new k42 (fun x hx => .inl ((List.mem_singleton.1 hx) ▸ ge_b2))
 clear z12
 replace hb19 : Bk w42 b2 _ [.int .u64 (hh11 0), .int .u64 (hh11 1), .int .u64 (hh11 2), .int .u64 (hh11 3), .int .u64 (hh11 4), .int .u64 (hh12 0), .int .u64 (hh12 1), .int .u64 (hh12 2), .int .u64 (hh12 3), .int .u64 (hh12 4), .int .u64 (hh13 0), .int .u64 (hh13 1), .int .u64 (hh13 2), .int .u64 (hh13 3), .int .u64 (hh13 4), .int .u64 (hh14 0), .int .u64 (hh14 1), .int .u64 (hh14 2), .int .u64 (hh14 3), .int .u64 (hh14 4)] := hb19
 refine ow_nil (tw_keep [(2, _)] ⟨rfl, trivial⟩ ?_)
 refine tw_retc hfin Try.results59 rfl (run_loadAgg ag30 ty30 ‹_› rfl)  ?_
 exact ⟨(vecN [(hh11 0), (hh11 1), (hh11 2), (hh11 3), (hh11 4), (hh12 0), (hh12 1), (hh12 2), (hh12 3), (hh12 4), (hh13 0), (hh13 1), (hh13 2), (hh13 3), (hh13 4), (hh14 0), (hh14 1), (hh14 2), (hh14 3), (hh14 4)]), rfl, ⟨E11, E12, E13, E14⟩, hB⟩
end Go.Proofs.Ytkngeapegpehpaa.W
namespace Go.Proofs.Ytkngeapegpehpaa.W
open Go Go.Eng Go.Byt
set_option linter.unusedVariables false
set_option linter.unusedSimpArgs false
open Go.Fld Go.Ed
theorem d_bytes : fp (leI [163, 120, 89, 19, 202, 77, 235, 117, 171, 216, 65, 65, 77, 10, 112, 0, 152, 232, 121, 119, 121, 64, 199, 140, 115, 254, 111, 43, 238, 108, 3, 82]) = d := by decide +kernel
set_option maxRecDepth 100000 in
theorem pd_any (w : World) : Rets Try.prog 40 [] w (fun v w' => ∃ h, v = .agg (iv .u64 5 h).toArray ∧ El h d ∧ Keep [] w w') := by
 have hB : Keep [] w w := Keep.refl _ _
 refine rets_of_tw Try.func40 rfl (by decide) Try.ntmps40 rfl (fun fin _ hfin => ?_)
 refine tw_seq (tw_region (ow_d (d_alloc ty28) rfl ?_))
 rintro _ w1 ⟨b1, rfl, eb1, hb1, k1, z1⟩
 have ge_b1 : w.heap.size ≤ b1 := by have := hB.size; omega
 replace hB := hB.trans k1
 clear eb1 z1
 refine ow_nil (tw_seq (tw_region (ow_d (d_bs (m := 32) (xs := [.const (.int .u8 (163)), .const (.int .u8 (120)), .const (.int .u8 (89)), .const (.int .u8 (19)), .const (.int .u8 (202)), .const (.int .u8 (77)), .const (.int .u8 (235)), .const (.int .u8 (117)), .const (.int .u8 (171)), .const (.int .u8 (216)), .const (.int .u8 (65)), .const (.int .u8 (65)), .const (.int .u8 (77)), .const (.int .u8 (10)), .const (.int .u8 (112)), .const (.int .u8 (0)), .const (.int .u8 (152)), .const (.int .u8 (232)), .const (.int .u8 (121)), .const (.int .u8 (119)), .const (.int .u8 (121)), .const (.int .u8 (64)), .const (.int .u8 (199)), .const (.int .u8 (140)), .const (.int .u8 (115)), .const (.int .u8 (254)), .const (.int .u8 (111)), .const (.int .u8 (43)), .const (.int .u8 (238)), .const (.int .u8 (108)), .const (.int .u8 (3)), .const (.int .u8 (82))]) (vs := [_, _, _, _, _, _, _, _, _, _, _, _, _, _, _, _, _, _, _, _, _, _, _, _, _, _, _, _, _, _, _, _]) Try.underlying22 ty5 (by decide) rfl rfl rfl (by simp only [List.forall_mem_cons]; exact ⟨rfl, rfl, rfl, rfl, rfl, rfl, rfl, rfl, rfl, rfl, rfl, rfl, rfl, rfl, rfl, rfl, rfl, rfl, rfl, rfl, rfl, rfl, rfl, rfl, rfl, rfl, rfl, rfl, rfl, rfl, rfl, rfl, fun v hv => by cases hv⟩) (by decide)) rfl ?_)))
 rintro v1 w2 ⟨o1, nn1, lb1, k2, z2⟩
 have gl_o1 := hB.size
 have sb_b1_o1 := fun x hx => (show x ≠ b1 from by have h1 := (o1.blk x hx).1; have h2 := hb1.lt; omega)
 replace hb1 := hb1.keep0 k2
 replace hB := hB.trans k2
 have u_o1 := o1.blk
 replace o1 : Own w2 _ _ 1 v1 32 (bv [163, 120, 89, 19, 202, 77, 235, 117, 171, 216, 65, 65, 77, 10, 112, 0, 152, 232, 121, 119, 121, 64, 199, 140, 115, 254, 111, 43, 238, 108, 3, 82]) := o1
 refine ow_d (d_call (vs := [_]) rfl (from_any _ [163, 120, 89, 19, 202, 77, 235, 117, 171, 216, 65, 65, 77, 10, 112, 0, 152, 232, 121, 119, 121, 64, 199, 140, 115, 254, 111, 43, 238, 108, 3, 82] _ (by first | assumption | exact Own.rd ‹_› | exact Rd.keep0 ‹_› hB | exact Own.rd (Own.keep0 ‹_› hB)) rfl)) rfl ?_
 rintro _ w3 ⟨hh1, rfl, E1, k3⟩
 replace hb1 := hb1.keep0 k3
 replace o1 := o1.keep0 k3
 replace hB := hB.trans k3
 refine ow_g (g_mv rfl) rfl (ow_g (g_ext (vs := [_, _]) rfl rfl) rfl ?_)
 refine ow_g (g_ext (vs := [_, _]) rfl rfl) rfl ?_
 refine ow_d (d_alloc ty28) rfl ?_
 rintro _ w4 ⟨b2, rfl, eb2, hb2, k4, z3⟩
 have ge_b2 : w.heap.size ≤ b2 := by have := hB.size; omega
 have ne_b1_b2 : b1 ≠ b2 := by have := hb1.lt; omega
 have sb_b2_o1 := fun x hx => (show x ≠ b2 from by have := (o1.blk x hx).2; omega)
 replace hb1 := hb1.keep0 k4
 replace o1 := o1.keep0 k4
 replace hB := hB.trans k4
 clear eb2 z3
 refine ow_d0 (d_sta ty28 rfl rfl rfl ivF_one hb2 rfl) ?_
 rintro _ w5 ⟨hb3, k5, z4⟩
 replace hb1 := hb1.keep k5 (fun hm => absurd (List.mem_singleton.1 hm) ne_b1_b2)
 replace o1 := o1.keep k5 (fun x hx hm => sb_b2_o1 x hx (List.mem_singleton.1 hm))
 replace hB := hB.new k5 (fun x hx => .inl ((List.mem_singleton.1 hx) ▸ ge_b2))
 clear z4
 replace hb3 : Bk w5 b2 _ [.int .u64 (hh1 0), .int .u64 (hh1 1), .int .u64 (hh1 2), .int .u64 (hh1 3), .int .u64 (hh1 4)] := hb3
 refine ow_g (g_as rfl) rfl (ow_nil (tw_seq (tw_region (ow_g (g_ldab (cs' := [_, _, _, _, _]) ag28 ty28 rfl hb3 rfl rfl) rfl ?_))))
 refine ow_d0 (d_sta ty28 rfl rfl rfl (by simp only [List.forall_mem_cons]; refine ⟨rfl, rfl, rfl, rfl, rfl, fun v hv => by cases hv⟩) hb1 rfl) ?_
 rintro _ w6 ⟨hb4, k6, z5⟩
 replace o1 := o1.keep k6 (fun x hx hm => sb_b1_o1 x hx (List.mem_singleton.1 hm))
 replace hb3 := hb3.keep k6 (fun hm => absurd (List.mem_singleton.1 hm) (Ne.symm ne_b1_b2))
 replace hB := hB.new k6 (fun x hx => .inl ((List.mem_singleton.1 hx) ▸ ge_b1))
 clear z5
 replace hb4 : Bk w6 b1 _ [.int .u64 (hh1 0), .int .u64 (hh1 1), .int .u64 (hh1 2), .int .u64 (hh1 3), .int .u64 (hh1 4)] := hb4
 refine ow_nil (tw_retc hfin Try.results40 rfl (run_loadAgg ag28 ty28 ‹_› rfl)  ?_)
 exact ⟨hh1, rfl, d_bytes ▸ E1, hB⟩
end Go.Proofs.Ytkngeapegpehpaa.W
namespace Go.Eng
open Go Go.IntWalk Go.Op
section
variable {P : Program} (w : World)
theorem run_forall (l : List Nat) (f : Nat → Sem Bool) (b : Nat → Bool) (h : ∀ i, i ∈ l → (f i).run P w = .ok (b i) w) : (do
      for i in l do
        if !(← f i) then return false
      pure true : Sem Bool).run P w = .ok (l.all b) w := by
  induction l with
  | nil => simp
  | cons i l ih =>
    have h0 := h i (by simp)
    have ih := ih (fun j hj => h j (by simp [hj]))
    simp only [List.forIn_cons, Sem.run_bind, h0, Result.andThen_ok, List.all_cons] at ih ⊢
    cases hb : b i <;> simp at ih ⊢
    exact ih
theorem run_eqarr {t e n s d : Nat} (ht : P.underlying t = some (.array n e)) (hsz : ∀ w, (sizeOf e).run P w = .ok s w) (xs ys : Array Value) (b : Nat → Bool) (h : ∀ i, i < n → (do equalIn d e (← part e xs (i * s)) (← part e ys (i * s)) : Sem Bool).run P w = .ok (b i) w) :
    (equalIn (d + 1) t (.agg xs) (.agg ys)).run P w = .ok ((List.range n).all b) w := by
  have := run_forall (P := P) w (List.range' 0 n) (fun i => do equalIn d e (← part e xs (i * s)) (← part e ys (i * s))) b (fun i hi => h i (by simpa using (List.mem_range'_1.1 hi).2))
  rw [equalIn]
  simp only [Sem.run_bind, run_underlying ht, Result.andThen_ok, hsz, Std.Legacy.Range.forIn_eq_forIn_range', Std.Legacy.Range.size, Nat.sub_zero, Nat.add_sub_cancel, Nat.div_one, List.range_eq_range'] at this ⊢
  simp only [bind_assoc] at this
  exact this
theorem run_partAgg {t off s b : Nat} {zs : List Value} {xs : Array Value} (ha : agB P t = true) (hs : Ty P t zs s b) : (part t xs off).run P w = .ok (.agg (xs.extract off (off + s))) w := by
  unfold part
  simp [run_isAgg' ha, hs.sizeOf]
theorem eqf_nil (d : Nat) (xs ys : Array Value) : (eqFields d xs ys []).run P w = .ok true w := by simp [eqFields]
theorem eqf_cons {d : Nat} {xs ys : Array Value} {f : Field} {fs : List Field} {b1 b2 : Bool} {zs : List Value} {s by_ : Nat} (hn : (f.name != "_") = true) (ha : agB P f.type = true) (hs : Ty P f.type zs s by_)
    (h1 : (equalIn d f.type (.agg (xs.extract f.offset (f.offset + s))) (.agg (ys.extract f.offset (f.offset + s)))).run P w = .ok b1 w) (h2 : (eqFields d xs ys fs).run P w = .ok b2 w) : (eqFields d xs ys (f :: fs)).run P w = .ok (b1 && b2) w := by
  have hn' : f.name ≠ "_" := by simpa using hn
  unfold eqFields
  rw [if_pos hn']
  simp only [Sem.run_bind, run_partAgg w ha hs, Result.andThen_ok, h1]
  cases b1
  · simp
  · simp [h2]
theorem run_partInt {t : TypeId} {k : IntKind} {off : Nat} {v : Value} {xs : Array Value} (he : P.underlying t = some (.int k)) (hx : xs[off]? = some v) : (part t xs off).run P w = .ok v w := by
  unfold part isAgg
  simp [run_underlying he, hx]
theorem run_eqiv {t e : TypeId} {n d : Nat} {k : IntKind} {zs : List Value} {b : Nat} (ht : P.underlying t = some (.array n e)) (he : P.underlying e = some (.int k)) (hs : Ty P e zs 1 b) (f g : Nat → Int) :
    (equalIn (d + 2) t (.agg (iv k n f).toArray) (.agg (iv k n g).toArray)).run P w = .ok ((List.range n).all fun i => f i == g i) w := by
  refine run_eqarr (s := 1) w ht (fun w => hs.sizeOf w) _ _ _ (fun i hi => ?_)
  rw [Nat.mul_one]
  have h1 : ∀ f : Nat → Int, (part e (iv k n f).toArray i).run P w = .ok (.int k (f i)) w := fun f => run_partInt w he (by rw [List.getElem?_toArray]; exact iv_get hi)
  simp only [Sem.run_bind, h1, Result.andThen_ok]
  exact run_equalIn_int w d e k k _ _ he
theorem run_eqst {t : TypeId} {d : Nat} {fs : Array Field} {xs ys : Array Value} {b : Bool} (ht : P.underlying t = some (.struct fs)) (hp : P.stoodInHeld t = false) (h : (eqFields d xs ys fs.toList).run P w = .ok b w) : (equalIn (d + 1) t (.agg xs) (.agg ys)).run P w = .ok b w := by
  have hf : P.fieldsOf t = fs := by unfold Program.fieldsOf; rw [ht]
  rw [run_equalIn_struct w d t xs ys (by rw [hf]; exact ht) hp, hf]
  exact h
end
variable {P : Program} {n : Nat} {f : Fr} {w : World} {ty : TypeId}
theorem g_eqst {t u : TypeId} {x y : Operand} {xs ys : Array Value} {b : Bool} (hg : P.eqGuardType P.depth t = false) (hx : f.ev x = some (.agg xs)) (hy : f.ev y = some (.agg ys))
    (h : (equalIn 10000 t (.agg xs) (.agg ys)).run P w = .ok b w) : Gives P n f w (.binOp .eql t x y u) ty (.bool b) w :=
  run_bin hx hy (fun x y => run_eqGuard_agg w _ _ _ _ _ _ hg) (by rw [run_eql_struct, h]; rfl)
theorem g_max {x y : Operand} {k k' : IntKind} {a b : Int} {ts : Array TypeId} (hx : f.ev x = some (.int k a)) (hy : f.ev y = some (.int k' b)) : Gives P n f w (.call { callee := .builtin .max, args := #[x, y], argTypes := ts }) ty (.int k (if b > a then b else a)) w := by
  intro c hc dst pos aft g
  simp [execOp, resolve, invoke, builtin, hc.ev hx, hc.ev hy, run_max_int2]
end Go.Eng
namespace Go.Proofs.Ytkngeapegpehpaa.W
open Go Go.Eng Go.Byt
set_option linter.unusedVariables false
set_option linter.unusedSimpArgs false
open Go.Fld Go.Ed
theorem iv5_ext (f : Nat → Int) : (iv .u64 5 f).toArray.extract 0 (0 + 5) = (iv .u64 5 f).toArray := by rw [List.extract_toArray]; rfl
theorem iv20_ext (f : Nat → Int) : (iv .u64 20 f).toArray.extract 0 (0 + 5) = (iv .u64 5 f).toArray ∧ (iv .u64 20 f).toArray.extract 5 (5 + 5) = (iv .u64 5 (fun i => f (5 + i))).toArray ∧ (iv .u64 20 f).toArray.extract 10 (10 + 5) = (iv .u64 5 (fun i => f (10 + i))).toArray ∧ (iv .u64 20 f).toArray.extract 15 (15 + 5) = (iv .u64 5 (fun i => f (15 + i))).toArray := by
  refine ⟨?_, ?_, ?_, ?_⟩ <;> (rw [List.extract_toArray]; rfl)
def eq5 (f g : Nat → Int) : Bool := (List.range 5).all fun i => f i == g i
theorem num_eq (w : World) (d : Nat) (f g : Nat → Int) : (Op.equalIn (d + 3) 28 (.agg (iv .u64 5 f).toArray) (.agg (iv .u64 5 g).toArray)).run Try.prog w = .ok (eq5 f g && true) w :=
  run_eqst w Try.underlying28 (by kernel_rfl) (eqf_cons w rfl ag26 ty26 (by rw [show (0 : Nat) + 5 = 5 from rfl]; exact (iv5_ext f ▸ iv5_ext g ▸ run_eqiv w (d := d) Try.underlying26 Try.underlying24 ty24 f g)) (eqf_nil w (d + 2) (iv .u64 5 f).toArray (iv .u64 5 g).toArray))
theorem pt_eq (w : World) (f g : Nat → Int) : (Op.equalIn 10000 30 (.agg (iv .u64 20 f).toArray) (.agg (iv .u64 20 g).toArray)).run Try.prog w = .ok ((eq5 f g && true) && ((eq5 (fun i => f (5 + i)) (fun i => g (5 + i)) && true) && ((eq5 (fun i => f (10 + i)) (fun i => g (10 + i)) && true) && ((eq5 (fun i => f (15 + i)) (fun i => g (15 + i)) && true) && true)))) w := by
  obtain ⟨a1, a2, a3, a4⟩ := iv20_ext f
  obtain ⟨b1, b2, b3, b4⟩ := iv20_ext g
  refine run_eqst w Try.underlying30 (by kernel_rfl) (eqf_cons w rfl ag28 ty28 ?_ (eqf_cons w rfl ag28 ty28 ?_ (eqf_cons w rfl ag28 ty28 ?_ (eqf_cons w rfl ag28 ty28 ?_ (eqf_nil w 9999 (iv .u64 20 f).toArray (iv .u64 20 g).toArray)))))
  · exact a1 ▸ b1 ▸ num_eq w 9996 _ _
  · exact a2 ▸ b2 ▸ num_eq w 9996 _ _
  · exact a3 ▸ b3 ▸ num_eq w 9996 _ _
  · exact a4 ▸ b4 ▸ num_eq w 9996 _ _
theorem eq5_zero {f : Nat → Int} {g : Nat → Int} {a : Fp} (h : eq5 f (fun _ => 0) = true) (hg : El g a) (h0 : g 0 = f 0 ∧ g 1 = f 1 ∧ g 2 = f 2 ∧ g 3 = f 3 ∧ g 4 = f 4) : a = 0 := by
  have e := fun i hi => eq_of_beq (List.all_eq_true.1 h i (List.mem_range.2 hi))
  obtain ⟨g0, g1, g2, g3, g4⟩ := h0
  obtain ⟨_, _, _, _, _, hv⟩ := hg
  rw [← hv]; unfold val5
  rw [g0, g1, g2, g3, g4, e 0 (by decide), e 1 (by decide), e 2 (by decide), e 3 (by decide), e 4 (by decide)]
  decide
theorem full_ne {p : Nat → Int} {X Y Z T : Fp} (h : PtEl p X Y Z T) (hz : Z ≠ 0) : ((eq5 p (fun _ => 0) && true) && ((eq5 (fun i => p (5 + i)) (fun _ => 0) && true) && ((eq5 (fun i => p (10 + i)) (fun _ => 0) && true) && ((eq5 (fun i => p (15 + i)) (fun _ => 0) && true) && true)))) = false := by
  cases he : eq5 (fun i => p (10 + i)) (fun _ => 0) with
  | true => exact absurd (eq5_zero he h.2.2.1 ⟨rfl, rfl, rfl, rfl, rfl⟩) hz
  | false => simp
set_option maxRecDepth 100000 in
theorem full_any (p : Nat → Int) (X Y Z T : Fp) (hp : PtEl p X Y Z T) (hz : Z ≠ 0) (w : World) : Rets Try.prog 54 [.agg (iv .u64 20 p).toArray] w (fun v w' => ∃ r, v = .agg (iv .u64 20 r).toArray ∧ PtEl r X Y Z T ∧ Keep [] w w') := by
 have hB : Keep [] w w := Keep.refl _ _
 refine rets_of_tw Try.func54 rfl (by decide) Try.ntmps54 rfl (fun fin _ hfin => ?_)
 refine tw_seq (tw_region (ow_d (d_box (cs := [.int .u64 (p 0), .int .u64 (p 1), .int .u64 (p 2), .int .u64 (p 3), .int .u64 (p 4), .int .u64 (p 5), .int .u64 (p 6), .int .u64 (p 7), .int .u64 (p 8), .int .u64 (p 9), .int .u64 (p 10), .int .u64 (p 11), .int .u64 (p 12), .int .u64 (p 13), .int .u64 (p 14), .int .u64 (p 15), .int .u64 (p 16), .int .u64 (p 17), .int .u64 (p 18), .int .u64 (p 19)]) rfl rfl) rfl ?_))
 rintro _ w1 ⟨b1, rfl, eb1, hb1, k1, z1⟩
 have ge_b1 : w.heap.size ≤ b1 := by have := hB.size; omega
 replace hB := hB.trans k1
 clear eb1 z1
 refine ow_d (d_alloc ty30) rfl ?_
 rintro _ w2 ⟨b2, rfl, eb2, hb2, k2, z2⟩
 have ge_b2 : w.heap.size ≤ b2 := by have := hB.size; omega
 have ne_b1_b2 : b1 ≠ b2 := by have := hb1.lt; omega
 replace hb1 := hb1.keep0 k2
 replace hB := hB.trans k2
 clear eb2 z2
 refine ow_nil (tw_seq (tw_seq (tw_region (ow_g (g_ldab (cs' := [_, _, _, _, _, _, _, _, _, _, _, _, _, _, _, _, _, _, _, _]) ag30 ty30 rfl hb1 rfl rfl) rfl ?_))))
 refine ow_g (g_bld (idx := []) (xs := []) (vs := []) (css := []) (out := [_, _, _, _, _, _, _, _, _, _, _, _, _, _, _, _, _, _, _, _]) pl30 ty30 rfl rfl trivial rfl rfl) rfl ?_
 refine ow_g (g_eqst (by kernel_rfl) rfl rfl (pt_eq _ p (fun _ => 0))) rfl ?_
 refine ow_nil (tw_condF rfl (full_ne hp hz) ?_)
 refine tw_skip (tw_seq (tw_region (ow_g (g_ldab (cs' := [_, _, _, _, _, _, _, _, _, _, _, _, _, _, _, _, _, _, _, _]) ag30 ty30 rfl hb1 rfl rfl) rfl ?_)))
 refine ow_d0 (d_sta ty30 rfl rfl rfl (by simp only [List.forall_mem_cons]; refine ⟨rfl, rfl, rfl, rfl, rfl, rfl, rfl, rfl, rfl, rfl, rfl, rfl, rfl, rfl, rfl, rfl, rfl, rfl, rfl, rfl, fun v hv => by cases hv⟩) hb2 rfl) ?_
 rintro _ w3 ⟨hb3, k3, z3⟩
 replace hb1 := hb1.keep k3 (fun hm => absurd (List.mem_singleton.1 hm) ne_b1_b2)
 replace hB := hB.new k3 (fun x hx => .inl ((List.mem_singleton.1 hx) ▸ ge_b2))
 clear z3
 replace hb3 : Bk w3 b2 _ [.int .u64 (p 0), .int .u64 (p 1), .int .u64 (p 2), .int .u64 (p 3), .int .u64 (p 4), .int .u64 (p 5), .int .u64 (p 6), .int .u64 (p 7), .int .u64 (p 8), .int .u64 (p 9), .int .u64 (p 10), .int .u64 (p 11), .int .u64 (p 12), .int .u64 (p 13), .int .u64 (p 14), .int .u64 (p 15), .int .u64 (p 16), .int .u64 (p 17), .int .u64 (p 18), .int .u64 (p 19)] := hb3
 refine ow_nil (tw_retc hfin Try.results54 rfl (run_loadAgg ag30 ty30 ‹_› rfl)  ?_)
 exact ⟨p, rfl, ⟨hp.1, hp.2.1, hp.2.2.1, hp.2.2.2⟩, hB⟩
set_option maxRecDepth 100000 in
theorem full_zero (w : World) : Rets Try.prog 54 [.agg (iv .u64 20 (fun _ => 0)).toArray] w (fun v w' => ∃ r, v = .agg (iv .u64 20 r).toArray ∧ PtEl r 0 (fp 1) (fp 1) (0 * fp 1) ∧ Keep [] w w') := by
 have hB : Keep [] w w := Keep.refl _ _
 refine rets_of_tw Try.func54 rfl (by decide) Try.ntmps54 rfl (fun fin _ hfin => ?_)
 refine tw_seq (tw_region (ow_d (d_box (cs := [.int .u64 ((fun _ => 0) 0), .int .u64 ((fun _ => 0) 1), .int .u64 ((fun _ => 0) 2), .int .u64 ((fun _ => 0) 3), .int .u64 ((fun _ => 0) 4), .int .u64 ((fun _ => 0) 5), .int .u64 ((fun _ => 0) 6), .int .u64 ((fun _ => 0) 7), .int .u64 ((fun _ => 0) 8), .int .u64 ((fun _ => 0) 9), .int .u64 ((fun _ => 0) 10), .int .u64 ((fun _ => 0) 11), .int .u64 ((fun _ => 0) 12), .int .u64 ((fun _ => 0) 13), .int .u64 ((fun _ => 0) 14), .int .u64 ((fun _ => 0) 15), .int .u64 ((fun _ => 0) 16), .int .u64 ((fun _ => 0) 17), .int .u64 ((fun _ => 0) 18), .int .u64 ((fun _ => 0) 19)]) rfl rfl) rfl ?_))
 rintro _ w1 ⟨b1, rfl, eb1, hb1, k1, z1⟩
 have ge_b1 : w.heap.size ≤ b1 := by have := hB.size; omega
 replace hB := hB.trans k1
 clear eb1 z1
 refine ow_d (d_alloc ty30) rfl ?_
 rintro _ w2 ⟨b2, rfl, eb2, hb2, k2, z2⟩
 have ge_b2 : w.heap.size ≤ b2 := by have := hB.size; omega
 have ne_b1_b2 : b1 ≠ b2 := by have := hb1.lt; omega
 replace hb1 := hb1.keep0 k2
 replace hB := hB.trans k2
 clear eb2 z2
 refine ow_nil (tw_seq (tw_seq (tw_region (ow_g (g_ldab (cs' := [_, _, _, _, _, _, _, _, _, _, _, _, _, _, _, _, _, _, _, _]) ag30 ty30 rfl hb1 rfl rfl) rfl ?_))))
 refine ow_g (g_bld (idx := []) (xs := []) (vs := []) (css := []) (out := [_, _, _, _, _, _, _, _, _, _, _, _, _, _, _, _, _, _, _, _]) pl30 ty30 rfl rfl trivial rfl rfl) rfl ?_
 refine ow_g (g_eqst (by kernel_rfl) rfl rfl (pt_eq _ (fun _ => 0) (fun _ => 0))) rfl ?_
 refine ow_nil (tw_condT rfl (by decide) ?_)
 refine tw_seq (tw_region (ow_g (g_bld (idx := []) (xs := []) (vs := []) (css := []) (out := [_, _, _, _, _]) pl28 ty28 rfl rfl trivial rfl rfl) rfl ?_))
 refine ow_d (d_call (vs := [_]) rfl (Small_any _ (by decide) _)) rfl ?_
 rintro _ w3 ⟨hh1, rfl, E1, k3⟩
 replace hb1 := hb1.keep0 k3
 replace hb2 := hb2.keep0 k3
 replace hB := hB.trans k3
 refine ow_d (d_call (vs := [_, _]) rfl (affine_any _ _ _ _ el_zero E1 _)) rfl ?_
 rintro _ w4 ⟨hh2, rfl, E2, k4⟩
 replace hb1 := hb1.keep0 k4
 replace hb2 := hb2.keep0 k4
 replace hB := hB.trans k4
 refine ow_d0 (d_sta ty30 rfl rfl rfl ivF_one hb2 rfl) ?_
 rintro _ w5 ⟨hb3, k5, z3⟩
 replace hb1 := hb1.keep k5 (fun hm => absurd (List.mem_singleton.1 hm) ne_b1_b2)
 replace hB := hB.new k5 (fun x hx => .inl ((List.mem_singleton.1 hx) ▸ ge_b2))
 clear z3
 replace hb3 : Bk w5 b2 _ [.int .u64 (hh2 0), .int .u64 (hh2 1), .int .u64 (hh2 2), .int .u64 (hh2 3), .int .u64 (hh2 4), .int .u64 (hh2 5), .int .u64 (hh2 6), .int .u64 (hh2 7), .int .u64 (hh2 8), .int .u64 (hh2 9), .int .u64 (hh2 10), .int .u64 (hh2 11), .int .u64 (hh2 12), .int .u64 (hh2 13), .int .u64 (hh2 14), .int .u64 (hh2 15), .int .u64 (hh2 16), .int .u64 (hh2 17), .int .u64 (hh2 18), .int .u64 (hh2 19)] := hb3
 refine ow_nil (tw_retc hfin Try.results54 rfl (run_loadAgg ag30 ty30 ‹_› rfl)  ?_)
 exact ⟨hh2, rfl, ⟨E2.1, E2.2.1, E2.2.2.1, E2.2.2.2⟩, hB⟩
end Go.Proofs.Ytkngeapegpehpaa.W
namespace Go.Proofs.Ytkngeapegpehpaa.W
open Go Go.Eng Go.Byt
set_option linter.unusedVariables false
set_option linter.unusedSimpArgs false
open Go.Fld Go.Ed
set_option maxRecDepth 100000 in
set_option maxHeartbeats 1000000 in
theorem Pplus_any (p q : Nat → Int) (X1 Y1 Z1 T1 X2 Y2 Z2 T2 : Fp) (hp : PtEl p X1 Y1 Z1 T1) (hz1 : Z1 ≠ 0) (hq : PtEl q X2 Y2 Z2 T2) (hz2 : Z2 ≠ 0) (w : World) : Rets Try.prog 23 [.agg (iv .u64 20 p).toArray, .agg (iv .u64 20 q).toArray] w (fun v w' => ∃ r, v = .agg (iv .u64 20 r).toArray ∧ PtEl r (((X1 + Y1) * (X2 + Y2) - X1 * X2 - Y1 * Y2) * (Z1 * Z2 - T1 * T2 * d)) ((Z1 * Z2 + T1 * T2 * d) * (Y1 * Y2 + X1 * X2)) ((Z1 * Z2 - T1 * T2 * d) * (Z1 * Z2 + T1 * T2 * d)) (((X1 + Y1) * (X2 + Y2) - X1 * X2 - Y1 * Y2) * (Y1 * Y2 + X1 * X2)) ∧ Keep [] w w') := by
 have hB : Keep [] w w := Keep.refl _ _
 refine rets_of_tw Try.func23 rfl (by decide) Try.ntmps23 rfl (fun fin _ hfin => ?_)
 refine tw_seq (tw_region (ow_d (d_box (cs := [.int .u64 (p 0), .int .u64 (p 1), .int .u64 (p 2), .int .u64 (p 3), .int .u64 (p 4), .int .u64 (p 5), .int .u64 (p 6), .int .u64 (p 7), .int .u64 (p 8), .int .u64 (p 9), .int .u64 (p 10), .int .u64 (p 11), .int .u64 (p 12), .int .u64 (p 13), .int .u64 (p 14), .int .u64 (p 15), .int .u64 (p 16), .int .u64 (p 17), .int .u64 (p 18), .int .u64 (p 19)]) rfl rfl) rfl ?_))
 rintro _ w1 ⟨b1, rfl, eb1, hb1, k1, z1⟩
 have ge_b1 : w.heap.size ≤ b1 := by have := hB.size; omega
 replace hB := hB.trans k1
 clear eb1 z1
 refine ow_d (d_box (cs := [.int .u64 (q 0), .int .u64 (q 1), .int .u64 (q 2), .int .u64 (q 3), .int .u64 (q 4), .int .u64 (q 5), .int .u64 (q 6), .int .u64 (q 7), .int .u64 (q 8), .int .u64 (q 9), .int .u64 (q 10), .int .u64 (q 11), .int .u64 (q 12), .int .u64 (q 13), .int .u64 (q 14), .int .u64 (q 15), .int .u64 (q 16), .int .u64 (q 17), .int .u64 (q 18), .int .u64 (q 19)]) rfl rfl) rfl ?_
 rintro _ w2 ⟨b2, rfl, eb2, hb2, k2, z2⟩
 have ge_b2 : w.heap.size ≤ b2 := by have := hB.size; omega
 have ne_b1_b2 : b1 ≠ b2 := by have := hb1.lt; omega
 replace hb1 := hb1.keep0 k2
 replace hB := hB.trans k2
 clear eb2 z2
 refine ow_d (d_alloc ty30) rfl ?_
 rintro _ w3 ⟨b3, rfl, eb3, hb3, k3, z3⟩
 have ge_b3 : w.heap.size ≤ b3 := by have := hB.size; omega
 have ne_b1_b3 : b1 ≠ b3 := by have := hb1.lt; omega
 have ne_b2_b3 : b2 ≠ b3 := by have := hb2.lt; omega
 replace hb1 := hb1.keep0 k3
 replace hb2 := hb2.keep0 k3
 replace hB := hB.trans k3
 clear eb3 z3
 refine ow_nil (tw_seq (tw_plan 6 [0, 2, 1, 3, 4, 5] [1, 3, 4, 5] [] mixed [(2, _), (3, _), (4, _)] ⟨rfl, rfl, rfl, trivial⟩ (by decide +kernel) rfl (fun w4 k4 => ?_)))
 replace hb1 := hb1.keep0 k4
 replace hb2 := hb2.keep0 k4
 replace hb3 := hb3.keep0 k4
 replace hB := hB.trans k4
 refine pw_g [(2, _)] rfl rfl ⟨rfl, trivial⟩ rfl (fun W' kk => g_ldab (cs' := [_, _, _, _, _, _, _, _, _, _, _, _, _, _, _, _, _, _, _, _]) ag30 ty30 rfl (Bk.keep0 hb1 kk) rfl rfl) ?_
 refine pw_g [(3, _)] rfl rfl ⟨rfl, trivial⟩ rfl (fun W' kk => g_ldab (cs' := [_, _, _, _, _, _, _, _, _, _, _, _, _, _, _, _, _, _, _, _]) ag30 ty30 rfl (Bk.keep0 hb2 kk) rfl rfl) ?_
 refine pw_d [(5, _)] rfl rfl ⟨rfl, trivial⟩ rfl (d_call (vs := [_]) rfl (full_any _ _ _ _ _ ⟨hp.1, hp.2.1, hp.2.2.1, hp.2.2.2⟩ hz1 _)) ?_
 rintro _ w5 ⟨hh1, rfl, E1, k5⟩
 refine ⟨k5, ?_⟩
 replace hb1 := hb1.keep0 k5
 replace hb2 := hb2.keep0 k5
 replace hb3 := hb3.keep0 k5
 replace hB := hB.trans k5
 refine pw_d [(7, _)] rfl rfl ⟨rfl, trivial⟩ rfl (d_call (vs := [_]) rfl (full_any _ _ _ _ _ ⟨hq.1, hq.2.1, hq.2.2.1, hq.2.2.2⟩ hz2 _)) ?_
 rintro _ w6 ⟨hh2, rfl, E2, k6⟩
 refine ⟨k6, ?_⟩
 replace hb1 := hb1.keep0 k6
 replace hb2 := hb2.keep0 k6
 replace hb3 := hb3.keep0 k6
 replace hB := hB.trans k6
 refine pw_d [] rfl rfl trivial rfl (d_call (vs := []) rfl (pd_any _)) ?_
 rintro _ w7 ⟨hh3, rfl, E3, k7⟩
 refine ⟨k7, ?_⟩
 replace hb1 := hb1.keep0 k7
 replace hb2 := hb2.keep0 k7
 replace hb3 := hb3.keep0 k7
 replace hB := hB.trans k7
 refine pw_d [(6, _), (8, _), (9, _)] rfl rfl ⟨rfl, rfl, rfl, trivial⟩ rfl (d_call (vs := [_, _, _]) rfl (pplus_any _ _ _ _ _ _ _ _ _ _ _ _ ⟨E1.1, E1.2.1, E1.2.2.1, E1.2.2.2⟩ ⟨E2.1, E2.2.1, E2.2.2.1, E2.2.2.2⟩ E3 _)) ?_
 rintro _ w8 ⟨hh4, rfl, E4, k8⟩
 refine ⟨k8, ?_⟩
 replace hb1 := hb1.keep0 k8
 replace hb2 := hb2.keep0 k8
 replace hb3 := hb3.keep0 k8
 replace hB := hB.trans k8
 refine pw_nil ?_
 refine ow_d0 (d_sta ty30 rfl rfl rfl ivF_one hb3 rfl) ?_
 rintro _ w9 ⟨hb4, k9, z4⟩
 replace hb1 := hb1.keep k9 (fun hm => absurd (List.mem_singleton.1 hm) ne_b1_b3)
 replace hb2 := hb2.keep k9 (fun hm => absurd (List.mem_singleton.1 hm) ne_b2_b3)
 replace hB := hB.new k9 (fun x hx => .inl ((List.mem_singleton.1 hx) ▸ ge_b3))
 clear z4
 replace hb4 : Bk w9 b3 _ [.int .u64 (hh4 0), .int .u64 (hh4 1), .int .u64 (hh4 2), .int .u64 (hh4 3), .int .u64 (hh4 4), .int .u64 (hh4 5), .int .u64 (hh4 6), .int .u64 (hh4 7), .int .u64 (hh4 8), .int .u64 (hh4 9), .int .u64 (hh4 10), .int .u64 (hh4 11), .int .u64 (hh4 12), .int .u64 (hh4 13), .int .u64 (hh4 14), .int .u64 (hh4 15), .int .u64 (hh4 16), .int .u64 (hh4 17), .int .u64 (hh4 18), .int .u64 (hh4 19)] := hb4
 refine ow_nil (tw_retc hfin Try.results23 rfl (run_loadAgg ag30 ty30 ‹_› rfl)  ?_)
 exact ⟨hh4, rfl, ⟨E4.1, E4.2.1, E4.2.2.1, E4.2.2.2⟩, hB⟩
set_option maxRecDepth 100000 in
set_option maxHeartbeats 1000000 in
theorem Pneg_any (p : Nat → Int) (X1 Y1 Z1 T1 : Fp) (hp : PtEl p X1 Y1 Z1 T1) (hz1 : Z1 ≠ 0) (w : World) : Rets Try.prog 27 [.agg (iv .u64 20 p).toArray] w (fun v w' => ∃ r, v = .agg (iv .u64 20 r).toArray ∧ PtEl r (0 - X1) Y1 Z1 (0 - T1) ∧ Keep [] w w') := by
 have hB : Keep [] w w := Keep.refl _ _
 refine rets_of_tw Try.func27 rfl (by decide) Try.ntmps27 rfl (fun fin _ hfin => ?_)
 refine tw_seq (tw_region (ow_d (d_box (cs := [.int .u64 (p 0), .int .u64 (p 1), .int .u64 (p 2), .int .u64 (p 3), .int .u64 (p 4), .int .u64 (p 5), .int .u64 (p 6), .int .u64 (p 7), .int .u64 (p 8), .int .u64 (p 9), .int .u64 (p 10), .int .u64 (p 11), .int .u64 (p 12), .int .u64 (p 13), .int .u64 (p 14), .int .u64 (p 15), .int .u64 (p 16), .int .u64 (p 17), .int .u64 (p 18), .int .u64 (p 19)]) rfl rfl) rfl ?_))
 rintro _ w1 ⟨b1, rfl, eb1, hb1, k1, z1⟩
 have ge_b1 : w.heap.size ≤ b1 := by have := hB.size; omega
 replace hB := hB.trans k1
 clear eb1 z1
 refine ow_d (d_alloc ty30) rfl ?_
 rintro _ w2 ⟨b2, rfl, eb2, hb2, k2, z2⟩
 have ge_b2 : w.heap.size ≤ b2 := by have := hB.size; omega
 have ne_b1_b2 : b1 ≠ b2 := by have := hb1.lt; omega
 replace hb1 := hb1.keep0 k2
 replace hB := hB.trans k2
 clear eb2 z2
 refine ow_nil (tw_seq (tw_region (ow_g (g_ldab (cs' := [_, _, _, _, _, _, _, _, _, _, _, _, _, _, _, _, _, _, _, _]) ag30 ty30 rfl hb1 rfl rfl) rfl ?_)))
 refine ow_d (d_call (vs := [_]) rfl (full_any _ _ _ _ _ ⟨hp.1, hp.2.1, hp.2.2.1, hp.2.2.2⟩ hz1 _)) rfl ?_
 rintro _ w3 ⟨hh1, rfl, E1, k3⟩
 replace hb1 := hb1.keep0 k3
 replace hb2 := hb2.keep0 k3
 replace hB := hB.trans k3
 refine ow_d0 (d_sta ty30 rfl rfl rfl ivF_one hb1 rfl) ?_
 rintro _ w4 ⟨hb3, k4, z3⟩
 replace hb2 := hb2.keep k4 (fun hm => absurd (List.mem_singleton.1 hm) (Ne.symm ne_b1_b2))
 replace hB := hB.new k4 (fun x hx => .inl ((List.mem_singleton.1 hx) ▸ ge_b1))
 clear z3
 replace hb3 : Bk w4 b1 _ [.int .u64 (hh1 0), .int .u64 (hh1 1), .int .u64 (hh1 2), .int .u64 (hh1 3), .int .u64 (hh1 4), .int .u64 (hh1 5), .int .u64 (hh1 6), .int .u64 (hh1 7), .int .u64 (hh1 8), .int .u64 (hh1 9), .int .u64 (hh1 10), .int .u64 (hh1 11), .int .u64 (hh1 12), .int .u64 (hh1 13), .int .u64 (hh1 14), .int .u64 (hh1 15), .int .u64 (hh1 16), .int .u64 (hh1 17), .int .u64 (hh1 18), .int .u64 (hh1 19)] := hb3
 refine ow_nil (tw_seq (tw_plan 13 [0, 1, 2, 4, 5, 6, 7, 8, 9, 10, 3, 11, 12] [3, 11] [] mixed [(1, _), (2, _)] ⟨rfl, rfl, trivial⟩ (by decide +kernel) rfl (fun w5 k5 => ?_)))
 replace hb2 := hb2.keep0 k5
 replace hb3 := hb3.keep0 k5
 replace hB := hB.trans k5
 refine pw_g [] rfl rfl trivial rfl (fun W' kk => g_bld (idx := []) (xs := []) (vs := []) (css := []) (out := [_, _, _, _, _]) pl28 ty28 rfl rfl trivial rfl rfl) ?_
 refine pw_g [(1, _)] rfl rfl ⟨rfl, trivial⟩ rfl (fun W' kk => g_fa Try.underlying30 rfl ty28 (by decide) rfl) ?_
 refine pw_g [(6, _)] rfl rfl ⟨rfl, trivial⟩ rfl (fun W' kk => g_ldab (cs' := [_, _, _, _, _]) ag28 ty28 rfl (Bk.keep0 hb3 kk) rfl rfl) ?_
 refine pw_g [(1, _)] rfl rfl ⟨rfl, trivial⟩ rfl (fun W' kk => g_fa Try.underlying30 rfl ty28 (by decide) rfl) ?_
 refine pw_g [(9, _)] rfl rfl ⟨rfl, trivial⟩ rfl (fun W' kk => g_ldab (cs' := [_, _, _, _, _]) ag28 ty28 rfl (Bk.keep0 hb3 kk) rfl rfl) ?_
 refine pw_g [(1, _)] rfl rfl ⟨rfl, trivial⟩ rfl (fun W' kk => g_fa Try.underlying30 rfl ty28 (by decide) rfl) ?_
 refine pw_g [(11, _)] rfl rfl ⟨rfl, trivial⟩ rfl (fun W' kk => g_ldab (cs' := [_, _, _, _, _]) ag28 ty28 rfl (Bk.keep0 hb3 kk) rfl rfl) ?_
 refine pw_g [] rfl rfl trivial rfl (fun W' kk => g_bld (idx := []) (xs := []) (vs := []) (css := []) (out := [_, _, _, _, _]) pl28 ty28 rfl rfl trivial rfl rfl) ?_
 refine pw_g [(1, _)] rfl rfl ⟨rfl, trivial⟩ rfl (fun W' kk => g_fa Try.underlying30 rfl ty28 (by decide) rfl) ?_
 refine pw_g [(14, _)] rfl rfl ⟨rfl, trivial⟩ rfl (fun W' kk => g_ldab (cs' := [_, _, _, _, _]) ag28 ty28 rfl (Bk.keep0 hb3 kk) rfl rfl) ?_
 refine pw_d [(5, _), (7, _)] rfl rfl ⟨rfl, rfl, trivial⟩ rfl (d_call (vs := [_, _]) rfl (nminus_any _ _ _ _ el_zero E1.1 _)) ?_
 rintro _ w6 ⟨hh2, rfl, E2, k6⟩
 refine ⟨k6, ?_⟩
 replace hb2 := hb2.keep0 k6
 replace hb3 := hb3.keep0 k6
 replace hB := hB.trans k6
 refine pw_d [(13, _), (15, _)] rfl rfl ⟨rfl, rfl, trivial⟩ rfl (d_call (vs := [_, _]) rfl (nminus_any _ _ _ _ el_zero E1.2.2.2 _)) ?_
 rintro _ w7 ⟨hh3, rfl, E3, k7⟩
 refine ⟨k7, ?_⟩
 replace hb2 := hb2.keep0 k7
 replace hb3 := hb3.keep0 k7
 replace hB := hB.trans k7
 refine pw_g [(8, _), (10, _), (12, _), (16, _)] rfl rfl ⟨rfl, rfl, rfl, rfl, trivial⟩ rfl (fun W' kk => g_bld (idx := [0, 1, 2, 3]) (xs := [.tmp 8, .tmp 10, .tmp 12, .tmp 16]) (vs := [_, _, _, _]) (css := [[_, _, _, _, _], [_, _, _, _, _], [_, _, _, _, _], [_, _, _, _, _]]) (out := [_, _, _, _, _, _, _, _, _, _, _, _, _, _, _, _, _, _, _, _]) pl30 ty30 rfl rfl ⟨rfl, rfl, rfl, rfl, trivial⟩ rfl rfl) ?_
 refine pw_nil ?_
 refine ow_d0 (d_sta ty30 rfl rfl rfl (by simp only [List.forall_mem_cons]; refine ⟨rfl, rfl, rfl, rfl, rfl, rfl, rfl, rfl, rfl, rfl, rfl, rfl, rfl, rfl, rfl, rfl, rfl, rfl, rfl, rfl, fun v hv => by cases hv⟩) hb2 rfl) ?_
 rintro _ w8 ⟨hb4, k8, z4⟩
 replace hb3 := hb3.keep k8 (fun hm => absurd (List.mem_singleton.1 hm) ne_b1_b2)
 replace hB := hB.new k8 (fun x hx => .inl ((List.mem_singleton.1 hx) ▸ ge_b2))
 clear z4
 replace hb4 : Bk w8 b2 _ [.int .u64 (hh2 0), .int .u64 (hh2 1), .int .u64 (hh2 2), .int .u64 (hh2 3), .int .u64 (hh2 4), .int .u64 (hh1 5), .int .u64 (hh1 6), .int .u64 (hh1 7), .int .u64 (hh1 8), .int .u64 (hh1 9), .int .u64 (hh1 10), .int .u64 (hh1 11), .int .u64 (hh1 12), .int .u64 (hh1 13), .int .u64 (hh1 14), .int .u64 (hh3 0), .int .u64 (hh3 1), .int .u64 (hh3 2), .int .u64 (hh3 3), .int .u64 (hh3 4)] := hb4
 refine ow_nil (tw_keep [(2, _)] ⟨rfl, trivial⟩ ?_)
 refine tw_retc hfin Try.results27 rfl (run_loadAgg ag30 ty30 ‹_› rfl)  ?_
 exact ⟨(vecN [(hh2 0), (hh2 1), (hh2 2), (hh2 3), (hh2 4), (hh1 5), (hh1 6), (hh1 7), (hh1 8), (hh1 9), (hh1 10), (hh1 11), (hh1 12), (hh1 13), (hh1 14), (hh3 0), (hh3 1), (hh3 2), (hh3 3), (hh3 4)]), rfl, ⟨E2, E1.2.1, E1.2.2.1, E3⟩, hB⟩
set_option maxRecDepth 100000 in
set_option maxHeartbeats 1000000 in
theorem Pzero_any (w : World) : Rets Try.prog 15 [] w (fun v w' => ∃ r, v = .agg (iv .u64 20 r).toArray ∧ PtEl r 0 (fp 1) (fp 1) (0 * fp 1) ∧ Keep [] w w') := by
 have hB : Keep [] w w := Keep.refl _ _
 refine rets_of_tw Try.func15 rfl (by decide) Try.ntmps15 rfl (fun fin _ hfin => ?_)
 refine tw_seq (tw_region (ow_d (d_alloc ty30) rfl ?_))
 rintro _ w1 ⟨b1, rfl, eb1, hb1, k1, z1⟩
 have ge_b1 : w.heap.size ≤ b1 := by have := hB.size; omega
 replace hB := hB.trans k1
 clear eb1 z1
 refine ow_nil (tw_seq (tw_region (ow_g (g_bld (idx := []) (xs := []) (vs := []) (css := []) (out := [_, _, _, _, _, _, _, _, _, _, _, _, _, _, _, _, _, _, _, _]) pl30 ty30 rfl rfl trivial rfl rfl) rfl ?_)))
 refine ow_d (d_call (vs := [_]) rfl (full_zero _)) rfl ?_
 rintro _ w2 ⟨hh1, rfl, E1, k2⟩
 replace hb1 := hb1.keep0 k2
 replace hB := hB.trans k2
 refine ow_d0 (d_sta ty30 rfl rfl rfl ivF_one hb1 rfl) ?_
 rintro _ w3 ⟨hb2, k3, z2⟩
 replace hB := hB.new k3 (fun x hx => .inl ((List.mem_singleton.1 hx) ▸ ge_b1))
 clear z2
 replace hb2 : Bk w3 b1 _ [.int .u64 (hh1 0), .int .u64 (hh1 1), .int .u64 (hh1 2), .int .u64 (hh1 3), .int .u64 (hh1 4), .int .u64 (hh1 5), .int .u64 (hh1 6), .int .u64 (hh1 7), .int .u64 (hh1 8), .int .u64 (hh1 9), .int .u64 (hh1 10), .int .u64 (hh1 11), .int .u64 (hh1 12), .int .u64 (hh1 13), .int .u64 (hh1 14), .int .u64 (hh1 15), .int .u64 (hh1 16), .int .u64 (hh1 17), .int .u64 (hh1 18), .int .u64 (hh1 19)] := hb2
 refine ow_nil (tw_retc hfin Try.results15 rfl (run_loadAgg ag30 ty30 ‹_› rfl)  ?_)
 exact ⟨hh1, rfl, ⟨E1.1, E1.2.1, E1.2.2.1, E1.2.2.2⟩, hB⟩
end Go.Proofs.Ytkngeapegpehpaa.W
namespace Go.Proofs.Ytkngeapegpehpaa.W
open Go Go.Eng Go.Byt
set_option linter.unusedVariables false
set_option linter.unusedSimpArgs false
open Go.Fld Go.Ed
theorem bv_setB {xs : List UInt8} {i : Nat} {b : Int} (h : In b 0 255) : (bv xs).set i (.int .u8 b) = bv (xs.set i (UInt8.ofNat b.toNat)) := by
  unfold In at h
  have e : (((UInt8.ofNat b.toNat).toNat : Nat) : Int) = b := by simp; omega
  unfold bv
  rw [List.map_set, e]
def encB (x y : Fp) : List UInt8 := (fpB y).set 31 (UInt8.ofNat (bits .or .u8 (gb (fpB y) 31) (IntKind.u8.wrap (gb (fpB x) 0 * 128))).toNat)
set_option maxRecDepth 100000 in
set_option maxHeartbeats 1000000 in
theorem Pencode_any (p : Nat → Int) (X Y Z T : Fp) (hp : PtEl p X Y Z T) (hz : Z ≠ 0) (w : World) : Rets Try.prog 16 [.agg (iv .u64 20 p).toArray] w (fun v w' => OwnB w' w.heap.size v (encB (X * inv Z) (Y * inv Z)) ∧ Keep [] w w') := by
 have hB : Keep [] w w := Keep.refl _ _
 refine rets_of_tw Try.func16 rfl (by decide) Try.ntmps16 rfl (fun fin _ hfin => ?_)
 refine tw_seq (tw_region (ow_d (d_box (cs := [.int .u64 (p 0), .int .u64 (p 1), .int .u64 (p 2), .int .u64 (p 3), .int .u64 (p 4), .int .u64 (p 5), .int .u64 (p 6), .int .u64 (p 7), .int .u64 (p 8), .int .u64 (p 9), .int .u64 (p 10), .int .u64 (p 11), .int .u64 (p 12), .int .u64 (p 13), .int .u64 (p 14), .int .u64 (p 15), .int .u64 (p 16), .int .u64 (p 17), .int .u64 (p 18), .int .u64 (p 19)]) rfl rfl) rfl ?_))
 rintro _ w1 ⟨b1, rfl, eb1, hb1, k1, z1⟩
 have ge_b1 : w.heap.size ≤ b1 := by have := hB.size; omega
 replace hB := hB.trans k1
 clear eb1 z1
 refine ow_g (g_as rfl) rfl (ow_nil (tw_seq (tw_region (ow_g (g_ldab (cs' := [_, _, _, _, _, _, _, _, _, _, _, _, _, _, _, _, _, _, _, _]) ag30 ty30 rfl hb1 rfl rfl) rfl ?_))))
 refine ow_d (d_call (vs := [_]) rfl (full_any _ _ _ _ _ ⟨hp.1, hp.2.1, hp.2.2.1, hp.2.2.2⟩ hz _)) rfl ?_
 rintro _ w2 ⟨hh1, rfl, E1, k2⟩
 replace hb1 := hb1.keep0 k2
 replace hB := hB.trans k2
 refine ow_d0 (d_sta ty30 rfl rfl rfl ivF_one hb1 rfl) ?_
 rintro _ w3 ⟨hb2, k3, z2⟩
 replace hB := hB.new k3 (fun x hx => .inl ((List.mem_singleton.1 hx) ▸ ge_b1))
 clear z2
 replace hb2 : Bk w3 b1 _ [.int .u64 (hh1 0), .int .u64 (hh1 1), .int .u64 (hh1 2), .int .u64 (hh1 3), .int .u64 (hh1 4), .int .u64 (hh1 5), .int .u64 (hh1 6), .int .u64 (hh1 7), .int .u64 (hh1 8), .int .u64 (hh1 9), .int .u64 (hh1 10), .int .u64 (hh1 11), .int .u64 (hh1 12), .int .u64 (hh1 13), .int .u64 (hh1 14), .int .u64 (hh1 15), .int .u64 (hh1 16), .int .u64 (hh1 17), .int .u64 (hh1 18), .int .u64 (hh1 19)] := hb2
 refine ow_nil (tw_seq (tw_region (ow_g (g_fa Try.underlying30 rfl ty28 (by decide) rfl) rfl ?_)))
 refine ow_g (g_ldab (cs' := [_, _, _, _, _]) ag28 ty28 rfl hb2 rfl rfl) rfl ?_
 refine ow_d (d_call (vs := [_]) rfl (ninverse_any _ _ E1.2.2.1 _)) rfl ?_
 rintro _ w4 ⟨hh2, rfl, E2, k4⟩
 replace hb2 := hb2.keep0 k4
 replace hB := hB.trans k4
 refine ow_d (d_alloc ty28) rfl ?_
 rintro _ w5 ⟨b2, rfl, eb2, hb3, k5, z3⟩
 have ge_b2 : w.heap.size ≤ b2 := by have := hB.size; omega
 have ne_b1_b2 : b1 ≠ b2 := by have := hb2.lt; omega
 replace hb2 := hb2.keep0 k5
 replace hB := hB.trans k5
 clear eb2 z3
 refine ow_d0 (d_sta ty28 rfl rfl rfl ivF_one hb3 rfl) ?_
 rintro _ w6 ⟨hb4, k6, z4⟩
 replace hb2 := hb2.keep k6 (fun hm => absurd (List.mem_singleton.1 hm) ne_b1_b2)
 replace hB := hB.new k6 (fun x hx => .inl ((List.mem_singleton.1 hx) ▸ ge_b2))
 clear z4
 replace hb4 : Bk w6 b2 _ [.int .u64 (hh2 0), .int .u64 (hh2 1), .int .u64 (hh2 2), .int .u64 (hh2 3), .int .u64 (hh2 4)] := hb4
 refine ow_nil (tw_seq (tw_region (ow_g (g_fa Try.underlying30 rfl ty28 (by decide) rfl) rfl ?_)))
 refine ow_g (g_ldab (cs' := [_, _, _, _, _]) ag28 ty28 rfl hb2 rfl rfl) rfl ?_
 refine ow_g (g_ldab (cs' := [_, _, _, _, _]) ag28 ty28 rfl hb4 rfl rfl) rfl ?_
 refine ow_d (d_call (vs := [_, _]) rfl (ntimes_any _ _ _ _ E1.2.1 E2 _)) rfl ?_
 rintro _ w7 ⟨hh3, rfl, E3, k7⟩
 replace hb2 := hb2.keep0 k7
 replace hb4 := hb4.keep0 k7
 replace hB := hB.trans k7
 refine ow_d (d_call (vs := [_]) rfl (nbytes_any _ _ E3 _)) rfl ?_
 rintro v1 w8 ⟨o1, k8⟩
 have gl_o1 := hB.size
 have sb_b1_o1 := fun x hx => (show x ≠ b1 from by have h1 := (o1.blk x hx).1; have h2 := hb2.lt; omega)
 have sb_b2_o1 := fun x hx => (show x ≠ b2 from by have h1 := (o1.blk x hx).1; have h2 := hb4.lt; omega)
 replace hb2 := hb2.keep0 k8
 replace hb4 := hb4.keep0 k8
 replace hB := hB.trans k8
 have u_o1 := o1.blk
 have lnv1 := fpB_length (Y * (inv Z))
 refine ow_g (g_as rfl) rfl (ow_nil (tw_keep [(1, _), (3, _), (4, _)] ⟨rfl, rfl, rfl, trivial⟩ ?_))
 refine tw_seq (tw_plan 12 [0, 1, 2, 3, 4, 5, 6, 7, 8, 9, 10, 11] [6, 7] [] mixed [(4, _), (1, _), (3, _)] ⟨rfl, rfl, rfl, trivial⟩ (by decide +kernel) rfl (fun w9 k9 => ?_))
 replace hb2 := hb2.keep0 k9
 replace hb4 := hb4.keep0 k9
 replace o1 := o1.keep0 k9
 replace hB := hB.trans k9
 refine pw_g [(4, _)] rfl rfl ⟨rfl, trivial⟩ rfl (fun W' kk => g_mv rfl) ?_
 refine pw_g [(15, _)] rfl rfl ⟨rfl, trivial⟩ rfl (fun W' kk => g_ix Try.underlying22 ty5 rfl (by first | exact Rd.keep0 ‹_› kk | exact Rd.keep0 (Own.rd ‹_›) kk | exact Rd.keep0 (Rd.keep0 ‹_› hB) kk | exact Rd.keep0 (Own.rd (Own.keep0 ‹_› hB)) kk) rfl (by omega)) ?_
 refine pw_g [(16, _)] rfl rfl ⟨rfl, trivial⟩ rfl (fun W' kk => g_ldB sc5 rfl (by first | exact Rd.keep0 ‹_› kk | exact Rd.keep0 (Own.rd ‹_›) kk | exact Rd.keep0 (Rd.keep0 ‹_› hB) kk | exact Rd.keep0 (Own.rd (Own.keep0 ‹_› hB)) kk) (by omega)) ?_
 refine pw_g [(1, _)] rfl rfl ⟨rfl, trivial⟩ rfl (fun W' kk => g_fa Try.underlying30 rfl ty28 (by decide) rfl) ?_
 refine pw_g [(18, _)] rfl rfl ⟨rfl, trivial⟩ rfl (fun W' kk => g_ldab (cs' := [_, _, _, _, _]) ag28 ty28 rfl (Bk.keep0 hb2 kk) rfl rfl) ?_
 refine pw_g [(3, _)] rfl rfl ⟨rfl, trivial⟩ rfl (fun W' kk => g_ldab (cs' := [_, _, _, _, _]) ag28 ty28 rfl (Bk.keep0 hb4 kk) rfl rfl) ?_
 refine pw_d [(19, _), (20, _)] rfl rfl ⟨rfl, rfl, trivial⟩ rfl (d_call (vs := [_, _]) rfl (ntimes_any _ _ _ _ E1.1 E2 _)) ?_
 rintro _ w10 ⟨hh4, rfl, E4, k10⟩
 refine ⟨k10, ?_⟩
 replace hb2 := hb2.keep0 k10
 replace hb4 := hb4.keep0 k10
 replace o1 := o1.keep0 k10
 replace hB := hB.trans k10
 refine pw_d [(21, _)] rfl rfl ⟨rfl, trivial⟩ rfl (d_call (vs := [_]) rfl (nbytes_any _ _ E4 _)) ?_
 rintro v2 w11 ⟨o2, k11⟩
 refine ⟨k11, ?_⟩
 have gl_o2 := hB.size
 have sb_b1_o2 := fun x hx => (show x ≠ b1 from by have h1 := (o2.blk x hx).1; have h2 := hb2.lt; omega)
 have sb_b2_o2 := fun x hx => (show x ≠ b2 from by have h1 := (o2.blk x hx).1; have h2 := hb4.lt; omega)
 replace hb2 := hb2.keep0 k11
 replace hb4 := hb4.keep0 k11
 replace o1 := o1.keep0 k11
 replace hB := hB.trans k11
 have u_o2 := o2.blk
 have lnv2 := fpB_length (X * (inv Z))
 refine pw_g [(22, _)] rfl rfl ⟨rfl, trivial⟩ rfl (fun W' kk => g_ix Try.underlying22 ty5 rfl (by first | exact Rd.keep0 ‹_› kk | exact Rd.keep0 (Own.rd ‹_›) kk | exact Rd.keep0 (Rd.keep0 ‹_› hB) kk | exact Rd.keep0 (Own.rd (Own.keep0 ‹_› hB)) kk) rfl (by omega)) ?_
 refine pw_g [(23, _)] rfl rfl ⟨rfl, trivial⟩ rfl (fun W' kk => g_ldB sc5 rfl (by first | exact Rd.keep0 ‹_› kk | exact Rd.keep0 (Own.rd ‹_›) kk | exact Rd.keep0 (Rd.keep0 ‹_› hB) kk | exact Rd.keep0 (Own.rd (Own.keep0 ‹_› hB)) kk) (by omega)) ?_
 refine pw_g [(24, _)] rfl rfl ⟨rfl, trivial⟩ rfl (fun W' kk => g_shlc (m := 128) rfl rfl (by decide) (by decide)) ?_
 refine pw_g [(17, _), (25, _)] rfl rfl ⟨rfl, rfl, trivial⟩ rfl (fun W' kk => g_or rfl rfl) ?_
 refine pw_nil ?_
 refine ow_g (g_ix Try.underlying22 ty5 rfl (by first | assumption | exact Own.rd ‹_› | exact Rd.keep0 ‹_› hB | exact Own.rd (Own.keep0 ‹_› hB)) rfl (by omega)) rfl ?_
 refine ow_d0 (d_sto (u := .int .u8 _) ty5 rfl rfl rfl o1 (by rw [bv_length, fpB_length]; decide)) ?_
 rintro _ w99 ⟨ow2, k99, z99⟩
 replace hB := hB.new k99 (fun x hx => .inl (Nat.le_trans gl_o1 (o1.blk x hx).1))
 rw [bv_setB (or_in (k := .u8) rfl rfl)] at ow2
 refine ow_nil (tw_keep [(4, _)] ⟨rfl, trivial⟩ ?_)
 refine tw_seq (tw_region (ow_g (g_mv rfl) rfl (ow_g (g_as rfl) rfl (ow_nil (tw_ret1 hfin Try.results16 rfl ?_)))))
 exact ⟨(by unfold OwnB encB; rw [List.length_set]; exact ow2.lo gl_o1), hB⟩
end Go.Proofs.Ytkngeapegpehpaa.W
namespace Go.Proofs.Ytkngeapegpehpaa.W
open Go Go.Eng Go.Byt
set_option linter.unusedVariables false
set_option linter.unusedSimpArgs false
theorem eqb_len {xs ys : List UInt8} (h : (xs.length : Int) ≠ ys.length) : decide (xs = ys) = false := decide_eq_false (fun e => h (by rw [e]))
theorem eqb_el {xs ys : List UInt8} {i : Int} (h : gb xs i ≠ gb ys i) : decide (xs = ys) = false := decide_eq_false (fun e => h (by rw [e]))
theorem eqb_all {xs ys : List UInt8} {i : Int} (hl : ¬ (xs.length : Int) ≠ ys.length) (h : ∀ j : Nat, (j : Int) < i → xs.getD j 0 = ys.getD j 0) (hi : ¬ i < xs.length) : decide (xs = ys) = true := by
  refine decide_eq_true (List.ext_getElem (by omega) (fun j h1 h2 => ?_))
  have := h j (by omega)
  rw [List.getD_eq_getElem?_getD, List.getD_eq_getElem?_getD, List.getElem?_eq_getElem h1, List.getElem?_eq_getElem h2] at this
  exact this
theorem eqb_step {xs ys : List UInt8} {i : Int} (h0 : 0 ≤ i) (h : ∀ j : Nat, (j : Int) < i → xs.getD j 0 = ys.getD j 0) (he : ¬ gb xs i ≠ gb ys i) : ∀ j : Nat, (j : Int) < i + 1 → xs.getD j 0 = ys.getD j 0 := by
  intro j hj
  by_cases hji : (j : Int) < i
  · exact h j hji
  · have e : i.toNat = j := by omega
    have he := Decidable.of_not_not he
    unfold gb at he; rw [e] at he
    exact UInt8.toNat_inj.1 (by omega)
set_option maxRecDepth 100000 in
set_option maxHeartbeats 1000000 in
theorem equal_any (u v : Value) (xs ys : List UInt8) (w : World) (hu : RdB w u xs) (hv : RdB w v ys) : Rets Try.prog 34 [u, v] w (fun r w' => r = .bool (decide (xs = ys)) ∧ Keep [] w w') := by
  have hB : Keep [] w w := Keep.refl _ _
  have hle := hu.le
  refine rets_of_tw Try.func34 rfl (by decide) Try.ntmps34 rfl (fun fin _ hfin => ?_)
  refine tw_seq ?_
  refine tw_region ?_
  refine ow_g (g_as rfl) rfl ?_
  refine ow_nil ?_
  refine tw_seq ?_
  refine tw_seq ?_
  refine tw_region ?_
  refine ow_g (g_mv rfl) rfl ?_
  refine ow_g (g_len Try.underlying22 rfl (by first | assumption | exact Own.rd (by assumption) | exact Rd.keep0 (by assumption) hB | exact Own.rd (Own.keep0 (by assumption) hB))) rfl ?_
  refine ow_g (g_mv rfl) rfl ?_
  refine ow_g (g_len Try.underlying22 rfl (by first | assumption | exact Own.rd (by assumption) | exact Rd.keep0 (by assumption) hB | exact Own.rd (Own.keep0 (by assumption) hB))) rfl ?_
  refine ow_g (g_ne rfl rfl) rfl ?_
  refine ow_nil ?_
  refine tw_if rfl (fun hc1 => ?_) (fun hc1 => ?_)
  · -- yes
    refine tw_seq ?_
    refine tw_region ?_
    refine ow_g (g_as rfl) rfl ?_
    refine ow_nil ?_
    refine tw_ret1 hfin Try.results34 rfl ?_
    first
    | (exact ⟨by rw [eqb_len hc1], hB⟩)
    | (exact ⟨by rw [eqb_el hc1], hB⟩)
    | (exact ⟨by rw [eqb_all hc1 hall hc1], hB⟩)
  · -- no
    refine tw_skip ?_
    refine tw_seq ?_
    refine tw_seq ?_
    refine tw_region ?_
    refine ow_g (g_mv rfl) rfl ?_
    refine ow_g (g_len Try.underlying22 rfl (by first | assumption | exact Own.rd (by assumption) | exact Rd.keep0 (by assumption) hB | exact Own.rd (Own.keep0 (by assumption) hB))) rfl ?_
    refine ow_g (g_mv rfl) rfl ?_
    refine ow_nil ?_
    refine tw_block ?_
    refine tw_loop (Γ := Int) (fun i => [(0, u), (1, v), (12, .int .i64 (xs.length : Int)), (13, .int .i64 i)]) (fun i W => 0 ≤ i ∧ i ≤ xs.length ∧ (∀ j : Nat, (j : Int) < i → xs.getD j 0 = ys.getD j 0) ∧ Keep [] w W) (fun i => (xs.length - i).toNat) 0 ⟨rfl, rfl, rfl, rfl, trivial⟩ (⟨by decide, by omega, fun j h => by omega, hB⟩) ?_
    rintro i w1 ⟨hi0, hi1, hall, hB⟩
    refine tw_keep [(0, u), (1, v), (12, .int .i64 (xs.length : Int)), (13, .int .i64 i)] ⟨rfl, rfl, rfl, rfl, trivial⟩ ?_
    refine tw_seq ?_
    refine tw_region ?_
    refine ow_g (g_lt rfl rfl) rfl ?_
    refine ow_nil ?_
    refine tw_seq ?_
    refine tw_if rfl (fun hc2 => ?_) (fun hc2 => ?_)
    · -- yes
      refine tw_skip ?_
      refine tw_seq ?_
      refine tw_block ?_
      refine tw_seq ?_
      refine tw_region ?_
      refine ow_g (g_mv rfl) rfl ?_
      refine ow_g (g_as rfl) rfl ?_
      refine ow_nil ?_
      refine tw_seq ?_
      refine tw_stillA mixed (by decide +kernel) (fun w2 k1 => ?_)
      have z_k1 := k1.size
      replace hB := hB.trans k1
      refine sw_g (g_mv rfl) rfl ?_
      refine sw_g (g_mv rfl) rfl ?_
      refine sw_g (g_ix Try.underlying22 ty5 rfl (by first | assumption | exact Own.rd (by assumption) | exact Rd.keep0 (by assumption) hB | exact Own.rd (Own.keep0 (by assumption) hB)) rfl (by omega)) rfl ?_
      refine sw_g (g_ldB sc5 rfl (by first | assumption | exact Own.rd (by assumption) | exact Rd.keep0 (by assumption) hB | exact Own.rd (Own.keep0 (by assumption) hB)) (by omega)) rfl ?_
      refine sw_g (g_mv rfl) rfl ?_
      refine sw_g (g_mv rfl) rfl ?_
      refine sw_g (g_ix Try.underlying22 ty5 rfl (by first | assumption | exact Own.rd (by assumption) | exact Rd.keep0 (by assumption) hB | exact Own.rd (Own.keep0 (by assumption) hB)) rfl (by omega)) rfl ?_
      refine sw_g (g_ldB sc5 rfl (by first | assumption | exact Own.rd (by assumption) | exact Rd.keep0 (by assumption) hB | exact Own.rd (Own.keep0 (by assumption) hB)) (by omega)) rfl ?_
      refine sw_g (g_ne rfl rfl) rfl ?_
      refine sw_nil ?_
      refine ow_nil ?_
      refine tw_if rfl (fun hc3 => ?_) (fun hc3 => ?_)
      · -- yes
        refine tw_seq ?_
        refine tw_region ?_
        refine ow_g (g_as rfl) rfl ?_
        refine ow_nil ?_
        refine tw_ret1 hfin Try.results34 rfl ?_
        first
        | (exact ⟨by rw [eqb_len hc1], hB⟩)
        | (exact ⟨by rw [eqb_el hc3], hB⟩)
        | (exact ⟨by rw [eqb_all hc1 hall hc3], hB⟩)
      · -- no
        refine tw_skip ?_
        refine tw_b ?_
        refine tw_region ?_
        refine ow_g (g_add rfl rfl (by omega)) rfl ?_
        refine ow_g (g_mv rfl) rfl ?_
        refine ow_nil ?_
        refine tw_inv (Γ := Int) (i + 1) ⟨rfl, rfl, rfl, rfl, trivial⟩ (by (try dsimp only); omega) (⟨by omega, by omega, eqb_step hi0 hall hc3, hB⟩)
    · -- no
      refine tw_exit rfl ?_
      refine tw_seq ?_
      refine tw_region ?_
      refine ow_g (g_as rfl) rfl ?_
      refine ow_nil ?_
      refine tw_ret1 hfin Try.results34 rfl ?_
      first
      | (exact ⟨by rw [eqb_len hc1], hB⟩)
      | (exact ⟨by rw [eqb_el hc2], hB⟩)
      | (exact ⟨by rw [eqb_all hc1 hall hc2], hB⟩)
set_option maxRecDepth 100000 in
set_option maxHeartbeats 1000000 in
theorem clone_any (v : Value) (xs : List UInt8) (w : World) (hv : RdB w v xs) (hx : xs.length ≤ 140737488355328) : Rets Try.prog 32 [v] w (fun u w' => OwnB w' w.heap.size u xs ∧ Keep [] w w' ∧ isNil u = isNil v) := by
  have hB : Keep [] w w := Keep.refl _ _
  have hn0 : isNil v = true → xs = [] := by
    obtain ⟨A, c, rfl, h1, h2, h3, h4, h5⟩ := hv
    intro h
    cases A with
    | none => have := h4 rfl; exact List.eq_nil_of_length_eq_zero (by omega)
    | some a => cases h
  refine rets_of_tw Try.func32 rfl (by decide) Try.ntmps32 rfl (fun fin _ hfin => ?_)
  refine tw_seq ?_
  refine tw_region ?_
  refine ow_g (g_as rfl) rfl ?_
  refine ow_nil ?_
  refine tw_seq ?_
  refine tw_seq ?_
  refine tw_region ?_
  refine ow_g (g_mv rfl) rfl ?_
  refine ow_g (g_nilS Try.underlying22 rfl (by first | assumption | exact Own.rd (by assumption) | exact Rd.keep0 (by assumption) hB | exact Own.rd (Own.keep0 (by assumption) hB))) rfl ?_
  refine ow_nil ?_
  refine tw_cond rfl (fun hc1 => ?_) (fun hc1 => ?_)
  · -- yes
    have hd1 := hc1
    try (simp only [Bool.and_eq_true, Bool.or_eq_true, decide_eq_true_eq, Bool.and_eq_false_iff, Bool.or_eq_false_iff, decide_eq_false_iff_not, Bool.not_eq_true', Bool.not_eq_false', Bool.not_eq_true, Bool.not_eq_false, ne_eq, Decidable.not_not, decide_true, decide_false, Bool.true_and, Bool.false_and, Bool.or_false, Bool.false_or, not_true_eq_false, false_or, or_false, true_and, and_true, not_false_eq_true, reduceCtorEq] at hd1)
    refine tw_seq ?_
    refine tw_region ?_
    refine ow_g (g_as rfl) rfl ?_
    refine ow_nil ?_
    refine tw_ret1 hfin Try.results32 rfl ?_
    first
    | (have h0 : xs = [] := hn0 (by assumption)
       subst h0; exact ⟨own_nil _ _ _ _, hB, (by show true = _; exact Eq.symm (by assumption))⟩)
    | exact ⟨by simpa using o2, hB, by simp [*]⟩
  · -- no
    have hd2 := hc1
    try (simp only [Bool.and_eq_true, Bool.or_eq_true, decide_eq_true_eq, Bool.and_eq_false_iff, Bool.or_eq_false_iff, decide_eq_false_iff_not, Bool.not_eq_true', Bool.not_eq_false', Bool.not_eq_true, Bool.not_eq_false, ne_eq, Decidable.not_not, decide_true, decide_false, Bool.true_and, Bool.false_and, Bool.or_false, Bool.false_or, not_true_eq_false, false_or, or_false, true_and, and_true, not_false_eq_true, reduceCtorEq] at hd2)
    refine tw_skip ?_
    refine tw_seq ?_
    refine tw_region ?_
    refine ow_d (d_bs (m := 0) (xs := []) (vs := []) Try.underlying22 ty5 (by decide) rfl rfl rfl (by first | (simp; done) | (intro v hv; rw [List.mem_singleton] at hv; subst hv; rfl)) (by decide)) rfl ?_
    rintro v1 w1 ⟨o1, nn1, lb1, k1, z1⟩
    have z_k1 := k1.size
    replace hB := hB.trans k1
    have u_o1 := o1.blk
    replace o1 : Own w1 _ _ 1 v1 0 (bv []) := o1
    refine ow_g (g_mv rfl) rfl ?_
    refine ow_d (d_appB  Try.underlying22 ty5 rfl (by first | assumption | exact own_nil _ _ _ _) rfl (by first | assumption | exact Own.rd (by assumption) | exact Rd.keep0 (by assumption) hB | exact Own.rd (Own.keep0 (by assumption) hB)) (by first | omega | (simp only [bv_length, List.length_append, Int.toNat_natCast] at *; omega)) (by have := hB.size; omega)) rfl ?_
    rintro v2 w2 ⟨o2, k2, lb2, nn2⟩
    have z_k2 := k2.size
    replace hB := hB.new k2 (fun x hx => .inl (o1.blk x hx).1)
    have u_o2 := fun x hx => (lb2 x hx).elim (fun h => Or.inl (u_o1 x h)) (fun h => Or.inr (And.intro h (o2.blk x hx).2))
    refine ow_g (g_as rfl) rfl ?_
    refine ow_nil ?_
    refine tw_ret1 hfin Try.results32 rfl ?_
    first
    | (have h0 : xs = [] := hn0 (by assumption)
       subst h0; exact ⟨own_nil _ _ _ _, hB, (by show true = _; exact Eq.symm (by assumption))⟩)
    | exact ⟨by simpa using o2, hB, by simp [*]⟩
end Go.Proofs.Ytkngeapegpehpaa.W
namespace Go.Proofs.Ytkngeapegpehpaa.W
open Go Go.Eng Go.Byt
set_option linter.unusedVariables false
set_option linter.unusedSimpArgs false
open Go.Fld Go.Ed
attribute [local irreducible] encB
set_option maxRecDepth 100000 in
set_option maxHeartbeats 1000000 in
theorem Psame_any (p q : Nat → Int) (X1 Y1 Z1 T1 X2 Y2 Z2 T2 : Fp) (hp : PtEl p X1 Y1 Z1 T1) (hz1 : Z1 ≠ 0) (hq : PtEl q X2 Y2 Z2 T2) (hz2 : Z2 ≠ 0) (w : World) : Rets Try.prog 14 [.agg (iv .u64 20 p).toArray, .agg (iv .u64 20 q).toArray] w (fun v w' => v = .bool (decide (encB (X1 * inv Z1) (Y1 * inv Z1) = encB (X2 * inv Z2) (Y2 * inv Z2))) ∧ Keep [] w w') := by
 have hB : Keep [] w w := Keep.refl _ _
 refine rets_of_tw Try.func14 rfl (by decide) Try.ntmps14 rfl (fun fin _ hfin => ?_)
 refine tw_seq (tw_region (ow_d (d_box (cs := [.int .u64 (p 0), .int .u64 (p 1), .int .u64 (p 2), .int .u64 (p 3), .int .u64 (p 4), .int .u64 (p 5), .int .u64 (p 6), .int .u64 (p 7), .int .u64 (p 8), .int .u64 (p 9), .int .u64 (p 10), .int .u64 (p 11), .int .u64 (p 12), .int .u64 (p 13), .int .u64 (p 14), .int .u64 (p 15), .int .u64 (p 16), .int .u64 (p 17), .int .u64 (p 18), .int .u64 (p 19)]) rfl rfl) rfl ?_))
 rintro _ w1 ⟨b1, rfl, eb1, hb1, k1, z1⟩
 have ge_b1 : w.heap.size ≤ b1 := by have := hB.size; omega
 replace hB := hB.trans k1
 clear eb1 z1
 refine ow_d (d_box (cs := [.int .u64 (q 0), .int .u64 (q 1), .int .u64 (q 2), .int .u64 (q 3), .int .u64 (q 4), .int .u64 (q 5), .int .u64 (q 6), .int .u64 (q 7), .int .u64 (q 8), .int .u64 (q 9), .int .u64 (q 10), .int .u64 (q 11), .int .u64 (q 12), .int .u64 (q 13), .int .u64 (q 14), .int .u64 (q 15), .int .u64 (q 16), .int .u64 (q 17), .int .u64 (q 18), .int .u64 (q 19)]) rfl rfl) rfl ?_
 rintro _ w2 ⟨b2, rfl, eb2, hb2, k2, z2⟩
 have ge_b2 : w.heap.size ≤ b2 := by have := hB.size; omega
 have ne_b1_b2 : b1 ≠ b2 := by have := hb1.lt; omega
 replace hb1 := hb1.keep0 k2
 replace hB := hB.trans k2
 clear eb2 z2
 refine ow_g (g_as rfl) rfl (ow_nil (tw_seq (tw_plan 5 [0, 2, 1, 3, 4] [1, 3, 4] [] mixed [(2, _), (3, _), (4, _)] ⟨rfl, rfl, rfl, trivial⟩ (by decide +kernel) rfl (fun w3 k3 => ?_))))
 replace hb1 := hb1.keep0 k3
 replace hb2 := hb2.keep0 k3
 replace hB := hB.trans k3
 refine pw_g [(2, _)] rfl rfl ⟨rfl, trivial⟩ rfl (fun W' kk => g_ldab (cs' := [_, _, _, _, _, _, _, _, _, _, _, _, _, _, _, _, _, _, _, _]) ag30 ty30 rfl (Bk.keep0 hb1 kk) rfl rfl) ?_
 refine pw_g [(3, _)] rfl rfl ⟨rfl, trivial⟩ rfl (fun W' kk => g_ldab (cs' := [_, _, _, _, _, _, _, _, _, _, _, _, _, _, _, _, _, _, _, _]) ag30 ty30 rfl (Bk.keep0 hb2 kk) rfl rfl) ?_
 refine pw_d [(5, _)] rfl rfl ⟨rfl, trivial⟩ rfl (d_call (vs := [_]) rfl (Pencode_any _ _ _ _ _ ⟨hp.1, hp.2.1, hp.2.2.1, hp.2.2.2⟩ hz1 _)) ?_
 rintro v1 w4 ⟨o1, k4⟩
 refine ⟨k4, ?_⟩
 have gl_o1 := hB.size
 have sb_b1_o1 := fun x hx => (show x ≠ b1 from by have h1 := (o1.blk x hx).1; have h2 := hb1.lt; omega)
 have sb_b2_o1 := fun x hx => (show x ≠ b2 from by have h1 := (o1.blk x hx).1; have h2 := hb2.lt; omega)
 replace hb1 := hb1.keep0 k4
 replace hb2 := hb2.keep0 k4
 replace hB := hB.trans k4
 have u_o1 := o1.blk
 refine pw_d [(7, _)] rfl rfl ⟨rfl, trivial⟩ rfl (d_call (vs := [_]) rfl (Pencode_any _ _ _ _ _ ⟨hq.1, hq.2.1, hq.2.2.1, hq.2.2.2⟩ hz2 _)) ?_
 rintro v2 w5 ⟨o2, k5⟩
 refine ⟨k5, ?_⟩
 have gl_o2 := hB.size
 have sb_b1_o2 := fun x hx => (show x ≠ b1 from by have h1 := (o2.blk x hx).1; have h2 := hb1.lt; omega)
 have sb_b2_o2 := fun x hx => (show x ≠ b2 from by have h1 := (o2.blk x hx).1; have h2 := hb2.lt; omega)
 replace hb1 := hb1.keep0 k5
 replace hb2 := hb2.keep0 k5
 replace o1 := o1.keep0 k5
 replace hB := hB.trans k5
 have u_o2 := o2.blk
 refine pw_d [(6, _), (8, _)] rfl rfl ⟨rfl, rfl, trivial⟩ rfl (d_call (vs := [_, _]) rfl (equal_any _ _ (encB (X1 * inv Z1) (Y1 * inv Z1)) (encB (X2 * inv Z2) (Y2 * inv Z2)) _ o1.rd o2.rd)) ?_
 rintro _ w6 ⟨rfl, k6⟩
 refine ⟨k6, ?_⟩
 replace hb1 := hb1.keep0 k6
 replace hb2 := hb2.keep0 k6
 replace o1 := o1.keep0 k6
 replace o2 := o2.keep0 k6
 replace hB := hB.trans k6
 refine pw_nil ?_
 refine ow_g (g_as rfl) rfl (ow_nil (tw_ret1 hfin Try.results14 rfl ?_))
 exact ⟨rfl, hB⟩
end Go.Proofs.Ytkngeapegpehpaa.W
namespace Go.Eng
open Go Go.IntWalk
section
variable {P : Program} {fin : Exit → Act → World → Prop} {n : Nat} {k : List KI} {f : Fr} {w : World} {ty : TypeId}
theorem tw_again {Γ : Type} {c body : Code} (fr : Γ → Fr) (I : Γ → World → Prop) (μ : Γ → Nat) (γ₀ : Γ) (h0 : Fr.sub (fr γ₀) f) (hI : I γ₀ w) {m : Nat} (hm : μ γ₀ ≤ m)
    (hpos : ∀ γ w, I γ w → 0 < μ γ)
    (h : ∀ (m : Nat) (γ : Γ) (w : World), I γ w → μ γ ≤ m + 1 → (∀ γ' w', μ γ' ≤ m → I γ' w' → TW P fin n (.c c :: .s m body :: k) (fr γ') w') → TW P fin n (.c c :: .s (m + 1) body :: k) (fr γ) w) :
    TW P fin n (.c c :: .s m body :: k) f w := by
  refine tw_keep (fr γ₀) h0 ?_
  clear h0
  induction m generalizing γ₀ w with
  | zero => have := hpos γ₀ w hI; omega
  | succ m ih => exact h m γ₀ w hI hm (fun γ' w' hm' hI' => ih γ' hI' hm')
def atN (W : Nat → Int) (o : Nat) : Nat → Int := fun c => W (o + c)
def updR (W : Nat → Int) (o s : Nat) (g : Nat → Int) : Nat → Int := fun j => bif Nat.ble o j && Nat.blt j (o + s) then g (j - o) else W j
theorem atN_updR_same {W g : Nat → Int} {o s c : Nat} (h : c < s) : atN (updR W o s g) o c = g c := by
  unfold atN updR
  rw [show Nat.ble o (o + c) = true from Nat.ble_eq_true_of_le (by omega), show Nat.blt (o + c) (o + s) = true from Nat.ble_eq_true_of_le (by omega), show o + c - o = c by omega]; rfl
theorem atN_updR_other {W g : Nat → Int} {o o' s c : Nat} (h : o' + c < o ∨ o + s ≤ o' + c) : atN (updR W o s g) o' c = atN W o' c := by
  unfold atN updR
  rcases h with h | h
  · rw [show Nat.ble o (o' + c) = false from by rw [← Bool.not_eq_true, Nat.ble_eq]; omega]; rfl
  · rw [show Nat.blt (o' + c) (o + s) = false from by rw [← Bool.not_eq_true]; unfold Nat.blt; rw [Nat.ble_eq]; omega, Bool.and_false]; rfl
theorem iv_part (k : IntKind) (W : Nat → Int) {m o s : Nat} (h : o + s ≤ m) : ((iv k m W).drop o).take s = iv k s (atN W o) := by
  apply List.ext_getElem?
  intro j
  rw [List.getElem?_take]
  by_cases hj : j < s
  · rw [if_pos hj, List.getElem?_drop, iv_get (by omega), iv_get hj]; rfl
  · rw [if_neg hj, List.getElem?_eq_none (by rw [ivF_length]; omega)]
theorem iv_join (k : IntKind) (W g : Nat → Int) {m o s : Nat} (h : o + s ≤ m) : (iv k m W).take o ++ iv k s g ++ (iv k m W).drop (o + s) = iv k m (updR W o s g) := by
  apply List.ext_getElem?
  intro j
  have l1 : ((iv k m W).take o).length = o := by rw [List.length_take, ivF_length]; omega
  by_cases hjm : j < m
  · rw [iv_get hjm]
    by_cases h1 : j < o
    · rw [List.append_assoc, List.getElem?_append_left (by omega), List.getElem?_take, if_pos h1, iv_get hjm]
      unfold updR
      rw [show Nat.ble o j = false from by rw [← Bool.not_eq_true, Nat.ble_eq]; omega]; rfl
    · by_cases h2 : j < o + s
      · rw [List.append_assoc, List.getElem?_append_right (by omega), l1, List.getElem?_append_left (by rw [ivF_length]; omega), iv_get (by omega)]
        unfold updR
        rw [show Nat.ble o j = true from Nat.ble_eq_true_of_le (by omega), show Nat.blt j (o + s) = true from Nat.ble_eq_true_of_le (by omega)]; rfl
      · rw [List.getElem?_append_right (by rw [List.length_append, l1, ivF_length]; omega), List.length_append, l1, ivF_length, List.getElem?_drop, show o + s + (j - (o + s)) = j by omega, iv_get hjm]
        unfold updR
        rw [show Nat.blt j (o + s) = false from by rw [← Bool.not_eq_true]; unfold Nat.blt; rw [Nat.ble_eq]; omega, Bool.and_false]; rfl
  · rw [List.getElem?_eq_none (by rw [List.length_append, List.length_append, l1, ivF_length, List.length_drop, ivF_length]; omega), List.getElem?_eq_none (by rw [ivF_length]; omega)]
theorem g_ldiv {x : Operand} {t : TypeId} {zs : List Value} {s b g o m : Nat} {T : TypeId} {kd : IntKind} {W : Nat → Int} (ht : agB P t = true) (hs : Ty P t zs s b) (hx : f.ev x = some (.pointer (some ⟨g, o, none⟩)))
    (hb : Bk w g T (iv kd m W)) (h : o + s ≤ m) : Gives P n f w (.load t x) ty (.agg (iv kd s (atN W o)).toArray) w :=
  g_ldab ht hs hx hb (iv_part kd W h) (ivF_length _ _ _ _)
theorem d_stiv {t : TypeId} {x y : Operand} {b o m : Nat} {T : TypeId} {zs : List Value} {s by_ : Nat} {kd : IntKind} {W g : Nat → Int} (ht : Ty P t zs s by_) (hx : f.ev x = some (.pointer (some ⟨b, o, none⟩))) (hy : f.ev y = some (.agg (iv kd s g).toArray))
    (hb : Bk w b T (iv kd m W)) (h : o + s ≤ m) :
    Does P n f w (.store t x y) ty (fun _ w' => Bk w' b T (iv kd m (updR W o s g)) ∧ Keep [b] w w' ∧ w'.heap.size = w.heap.size) :=
  (d_sta ht hx hy (ivF_length _ _ _ _) ivF_one hb (Nat.ble_eq_true_of_le (by rw [ivF_length]; exact h))).mono fun _ w' ⟨h1, h2, h3⟩ => ⟨by rwa [iv_join kd W g h] at h1, h2, h3⟩
theorem grdT {ops : Array Oper} {j d : Nat} {oj : Oper} {b want : Bool} (hj : ops[j]? = some oj) (hd : oj.dst = some d) (hf : f.get d = some (.bool b)) (hb : b = want) : Grd n ops f j want true := grd1 hj hd hf (by subst hb; cases b <;> rfl)
section
variable {l : List Oper} {p s0 i : Nat} {T cs r : List Nat} {Fin : Fr → World → Prop}
theorem pa_gt (f1 : Fr) {op : Op} {d : Nat} {pos : String} {aft : Array Edge} {j : Nat} {want : Bool} {v : Value} (ho : l[i]? = some ⟨some d, op, ty, pos, aft, some (j, want)⟩) (hc : cs.contains i = false) (hs : Fr.sub f1 f) (hk : slotsOk l p i f1 = true)
    (hG : Grd n l.toArray f1 j want true) (hr : ∀ w', Keep T w w' → Gives P n f1 w' op ty v w') (h : PA P n l p T s0 (fun i => cs.contains i) Fin r ((d, v) :: f) w) : PA P n l p T s0 (fun i => cs.contains i) Fin (i :: r) f w := by
  unfold PA
  refine ⟨_, f1, ho, hs, hk, .inr ⟨hc, v, fun w' hw a ha K Q hK => ?_, by rw [frPut_at ho]; exact h⟩⟩
  have hwt : Region.wanted ⟨some d, op, ty, pos, aft, some (j, want)⟩ (yielded l.toArray a.tmps) = true := hG a ha
  rw [hwt]
  refine ⟨fun _ => ?_, fun hcf => by cases hcf⟩
  unfold Oper.wp
  rw [hr w' hw a ha]
  exact hK _ _ ⟨rfl, rfl⟩
theorem pa_dt (f1 : Fr) {op : Op} {d : Nat} {pos : String} {aft : Array Edge} {j : Nat} {want : Bool} (ho : l[i]? = some ⟨some d, op, ty, pos, aft, some (j, want)⟩) (hc : cs.contains i = true) (hs : Fr.sub f1 f) (hk : slotsOk l p i f1 = true)
    (hG : Grd n l.toArray f1 j want true)
    (hr : ∀ w1, Keep [] w w1 → Does P n f1 w1 op ty (fun v w' => Keep T w1 w' ∧ (∀ x, x ∈ cblk v → (x < s0 ∨ w1.heap.size ≤ x) ∧ x < w'.heap.size) ∧ PA P n l p T s0 (fun i => cs.contains i) Fin r ((d, v) :: f) w')) : PA P n l p T s0 (fun i => cs.contains i) Fin (i :: r) f w := by
  unfold PA
  refine ⟨_, f1, ho, hs, hk, .inl ⟨hc, fun w1 k1 a ha K Q hK => ?_⟩⟩
  have hwt : Region.wanted ⟨some d, op, ty, pos, aft, some (j, want)⟩ (yielded l.toArray a.tmps) = true := hG a ha
  rw [hwt]
  refine ⟨fun _ => ?_, fun hcf => by cases hcf⟩
  exact hr w1 k1 a ha _ _ _ _ _ _ (fun v w' hv => hK _ _ ⟨hv.1, hv.2.1, by rw [frPut_at ho]; exact hv.2.2⟩)
end
theorem g_pickT {x y z : Operand} {b : Bool} {v : Value} (hx : f.ev x = some (.bool b)) (hb : b = true) (hy : f.ev y = some v) : Gives P n f w (.pick x y z) ty v w := by
  subst hb
  intro a ha dst pos aft g
  simp [execOp, ha.ev hx, ha.ev hy, asBool]
theorem g_pickF {x y z : Operand} {b : Bool} {v : Value} (hx : f.ev x = some (.bool b)) (hb : b = false) (hz : f.ev z = some v) : Gives P n f w (.pick x y z) ty v w := by
  subst hb
  intro a ha dst pos aft g
  simp [execOp, ha.ev hx, ha.ev hz, asBool]
theorem Rd.cblk {w : World} {s m : Nat} {v : Value} {cs : List Value} (h : Rd w s v m cs) : Eng.cblk v = vblk v := by
  obtain ⟨A, c, rfl, _⟩ := h
  cases A <;> rfl
theorem g_ixaE {x y : Operand} {t e : TypeId} {m : Nat} {zs : List Value} {s b : Nat} {blk o : Nat} (o' : Nat) {kd : IntKind} {i : Int} (ht : P.underlying t = some (.array m e)) (he : Ty P e zs s b)
    (hx : f.ev x = some (.pointer (some ⟨blk, o, none⟩))) (hy : f.ev y = some (.int kd i)) (h : 0 ≤ i ∧ i < m) (ho : o + i.toNat * s = o') :
    Gives P n f w (.indexAddr t x y) ty (.pointer (some ⟨blk, o', none⟩)) w := by subst ho; exact g_ixa ht he hx hy h
theorem d_stix {t : TypeId} {x y : Operand} {b o m : Nat} {T : TypeId} {zs : List Value} {by_ : Nat} {kd : IntKind} {W : Nat → Int} {v : Int} (ht : Ty P t zs 1 by_) (hx : f.ev x = some (.pointer (some ⟨b, o, none⟩))) (hy : f.ev y = some (.int kd v))
    (hb : Bk w b T (iv kd m W)) (h : o < m) :
    Does P n f w (.store t x y) ty (fun _ w' => Bk w' b T (iv kd m (upd W o v)) ∧ Keep [b] w w' ∧ w'.heap.size = w.heap.size) :=
  (d_st ht hx hy rfl hb (by rw [ivF_length]; exact Nat.ble_eq_true_of_le h)).mono fun _ w' ⟨h1, h2, h3⟩ => ⟨by rwa [iv_set] at h1, h2, h3⟩
theorem g_slv {x : Operand} {t e : TypeId} {lo hi : Option Operand} {zs : List Value} {s b m c : Nat} {A : Option Addr} {l h : Int} (ht : P.underlying t = some (.slice e)) (he : Ty P e zs s b)
    (hx : f.ev x = some (.slice A m c)) (h2 : c ≤ maxLen) (h1 : m ≤ c)
    (hlo : (lo = none ∧ l = 0) ∨ ∃ o k, lo = some o ∧ f.ev o = some (.int k l)) (hhi : (hi = none ∧ h = m) ∨ ∃ o k, hi = some o ∧ f.ev o = some (.int k h)) (hb : 0 ≤ l ∧ l ≤ h ∧ h ≤ c) :
    Gives P n f w (.slice t x lo hi none) ty (cut (.slice A m c) l.toNat h.toNat s) w := by
  intro a ha dst pos aft g
  have ht' : P.underlying t = some (.slice (P.elem t)) := by unfold Program.elem; rw [ht]
  have hel : P.elem t = e := by unfold Program.elem; rw [ht]
  have hbb : (Instr.sliceBounds true m c (lo.map a.eval) (hi.map a.eval) none).run P w = .ok (l.toNat, h.toNat, c) w := by
    have e2 : (h.toNat : Int) = h := Int.toNat_of_nonneg (by omega)
    rcases hlo with ⟨rfl, rfl⟩ | ⟨o, kk, rfl, ho⟩ <;> rcases hhi with ⟨rfl, rfl⟩ | ⟨o', kk', rfl, ho'⟩
    · simp [Instr.sliceBounds]
    · simp [Instr.sliceBounds, ha.ev ho', run_sliceBound w kk' h c _ (by omega) (by omega)]
    · simp [Instr.sliceBounds, ha.ev ho, run_sliceBound w kk l m _ (by omega) (by omega)]
    · simp [Instr.sliceBounds, ha.ev ho, ha.ev ho', run_sliceBound w kk' h c _ (by omega) (by omega), run_sliceBound w kk l h.toNat _ (by omega) (by omega)]
  simp only [execOp, ha.ev hx, Sem.run_bind, Option.map_none, run_sliceAt_slice w t _ _ _ _ ht', run_slice_any w t A m c ht', hbb, Result.andThen_ok, hel, he.sizeOf, sliced, Sem.run_pure, Eng.cut]
theorem d_cpAt {t u e : TypeId} {x y : Operand} {lo s l m m' by_ : Nat} {v v' : Value} {cs ys zs : List Value} (ht : P.underlying t = some (.slice e)) (he : Ty P e zs 1 by_) (hx : f.ev x = some (cut v l m 1)) (ho : Own w lo e 1 v m cs) (hl : l < m)
    (hy : f.ev y = some v') (hr : Rd w 1 v' m' ys) (h1 : ∀ c ∈ ys, c.oneCell' = true) (hs : s = min m' (m - l)) (hs0 : 0 < s) :
    Does P n f w (.call { callee := .builtin .copy, args := #[x, y], argTypes := #[t, u] }) ty
      (fun r w' => r = .int .i64 (s : Int) ∧ Own w' lo e 1 v m (cs.take l ++ ys.take s ++ cs.drop (l + s)) ∧ Keep (vblk v) w w' ∧ w'.heap.size = w.heap.size) := by
  intro a ha dst pos aft g K Q hK
  obtain ⟨ti, z, hi, hz, hzc, hsz, hby⟩ := he.parts
  have hsz' : (P.info? e).map (·.size) = some 1 := by rw [hi]; simp [hsz]
  obtain ⟨A', c', rfl, h2, h3, h4, h5, h6⟩ := hr
  have hlc := ho.1
  rw [Nat.mul_one] at h4 hlc
  have hne : cs ≠ [] := fun h => by subst h; simp at hlc; omega
  obtain ⟨gb, cap, cur, rfl, q1, q2, q3, q4, q5, q6⟩ := ho.raw hne
  rw [Nat.mul_one] at q5 q6
  have hcut : cut (.slice (some ⟨gb, 0, none⟩) m cap) l m 1 = .slice (some ⟨gb, l, none⟩) (m - l) (cap - l) := by
    have : cap ≠ l := by omega
    simp [cut, this, Addr.add_lit]
  rw [hcut] at hx
  cases A' with
  | none => have := h5 rfl; omega
  | some a' =>
    have hlen : (ys.take s).length = Nat.min m' (m - l) := by show _ = min m' (m - l); rw [List.length_take, h4]; omega
    have hl2 : (ys.take s).length = s := by rw [hlen]; exact hs.symm
    have hrun := run_copy_row (P := P) w t u ty e gb l (m - l) (cap - l) a' m' c' cur.toArray e (ys.take s) ht hsz' q2 hlen ((h6 a' rfl).take s) (by rw [hl2, List.size_toArray]; omega) (fun c hc => h1 c (List.mem_of_mem_take hc))
    rw [hl2] at hrun
    have hr : (execOp a.eval ⟨dst, .call { callee := .builtin .copy, args := #[x, y], argTypes := #[t, u] }, ty, pos, aft, g⟩).run P w = .ok (.value (goInt s)) (w.setRow gb (cur.take l ++ ys.take s ++ cur.drop (l + s)).toArray) := by
      simp [execOp, resolve, invoke, builtin, ha.ev hx, ha.ev hy, hrun]
    unfold Oper.wp
    rw [hr]
    refine hK _ _ ⟨rfl, ⟨by rw [List.length_append, List.length_append, hl2, List.length_take, List.length_drop, hlc]; omega, .inr ⟨gb, cap, _, rfl, q1, setRow_heap w gb _ _ e _ q2, q3, q4, ?_, ?_⟩⟩, setRow_keep _ _ _, setRow_size _ _ _⟩
    · simp only [List.size_toArray, List.length_append, List.length_take, List.length_drop, h4]; omega
    · rw [← q6]
      simp only [Nat.mul_one]
      have e1 : (cur.take l).length = l := by rw [List.length_take]; omega
      rw [List.append_assoc, List.append_assoc, List.take_append, List.take_append, e1, hl2, List.take_take, List.take_take, List.take_take, List.drop_take, Nat.min_eq_right (show l ≤ m by omega), Nat.min_eq_right (show s ≤ m - l by omega), Nat.min_eq_left (show l ≤ m by omega), show m - l - s = m - (l + s) by omega]
end
end Go.Eng
namespace Go.Proofs.Ytkngeapegpehpaa.W
open Go Go.Eng Go.Byt
set_option linter.unusedVariables false
set_option linter.unusedSimpArgs false
open Go.Fld Go.Ed
def mxB (xs : List UInt8) : Nat → Int
  | 0 => gb xs 0
  | i + 1 => if gb xs ((i + 1 : Nat) : Int) > mxB xs i then gb xs ((i + 1 : Nat) : Int) else mxB xs i
theorem mxB_nn (xs : List UInt8) : ∀ i, 0 ≤ mxB xs i
  | 0 => (gb_range xs 0).1
  | i + 1 => by
    have := gb_range xs ((i + 1 : Nat) : Int)
    have := mxB_nn xs i
    unfold mxB; split <;> omega
theorem mxB_zero (xs : List UInt8) : ∀ i, mxB xs i = 0 ↔ ∀ j : Nat, j ≤ i → gb xs j = 0
  | 0 => ⟨fun h j hj => by obtain rfl : j = 0 := by omega
                           exact h, fun h => h 0 (Nat.le_refl _)⟩
  | i + 1 => by
    have ih := mxB_zero xs i
    have g := gb_range xs ((i + 1 : Nat) : Int)
    have hn := mxB_nn xs i
    constructor
    · intro h j hj
      unfold mxB at h
      by_cases hji : j ≤ i
      · exact ih.1 (by split at h <;> omega) j hji
      · obtain rfl : j = i + 1 := by omega
        split at h <;> omega
    · intro h
      unfold mxB
      rw [h (i + 1) (Nat.le_refl _), ih.2 (fun j hj => h j (by omega))]; rfl
theorem mxB_step {xs : List UInt8} {m i : Int} (h1 : 1 ≤ i) (h : m = mxB xs (i - 1).toNat) : (if gb xs i > m then gb xs i else m) = mxB xs (i + 1 - 1).toNat := by
  subst h
  have e : (i + 1 - 1).toNat = (i - 1).toNat + 1 := by omega
  rw [e, mxB, show (((i - 1).toNat + 1 : Nat) : Int) = i by omega]
set_option maxRecDepth 100000 in
set_option maxHeartbeats 1000000 in
theorem maxv_any (v : Value) (xs : List UInt8) (w : World) (hv : RdB w v xs) (hx : 0 < xs.length) : Rets Try.prog 42 [v] w (fun r w' => r = .int .u8 (mxB xs ((xs.length : Int) - 1).toNat) ∧ Keep [] w w') := by
  have hB : Keep [] w w := Keep.refl _ _
  have hle := hv.le
  refine rets_of_tw Try.func42 rfl (by decide) Try.ntmps42 rfl (fun fin _ hfin => ?_)
  refine tw_seq ?_
  refine tw_region ?_
  refine ow_g (g_as rfl) rfl ?_
  refine ow_nil ?_
  refine tw_seq ?_
  refine tw_seq ?_
  refine tw_region ?_
  refine ow_g (g_mv rfl) rfl ?_
  refine ow_g (g_len Try.underlying22 rfl (by first | assumption | exact Own.rd (by assumption) | exact Rd.keep0 (by assumption) hB | exact Own.rd (Own.keep0 (by assumption) hB))) rfl ?_
  refine ow_g (g_lt rfl rfl) rfl ?_
  refine ow_nil ?_
  refine tw_ifF rfl (by omega) ?_
  refine tw_skip ?_
  refine tw_seq ?_
  refine tw_region ?_
  refine ow_g (g_mv rfl) rfl ?_
  refine ow_g (g_ix Try.underlying22 ty5 rfl (by first | assumption | exact Own.rd (by assumption) | exact Rd.keep0 (by assumption) hB | exact Own.rd (Own.keep0 (by assumption) hB)) rfl (by omega)) rfl ?_
  refine ow_g (g_ldB sc5 rfl (by first | assumption | exact Own.rd (by assumption) | exact Rd.keep0 (by assumption) hB | exact Own.rd (Own.keep0 (by assumption) hB)) (by omega)) rfl ?_
  refine ow_g (g_as rfl) rfl ?_
  refine ow_nil ?_
  refine tw_seq ?_
  refine tw_seq ?_
  refine tw_region ?_
  refine ow_g (g_as rfl) rfl ?_
  refine ow_nil ?_
  refine tw_block ?_
  refine tw_loop (Γ := Int × Int) (fun ⟨i, m⟩ => [(0, v), (3, .int .u8 m), (4, .int .i64 i)]) (fun ⟨i, m⟩ W => 1 ≤ i ∧ i ≤ xs.length ∧ m = mxB xs (i - 1).toNat ∧ Keep [] w W) (fun ⟨i, m⟩ => (xs.length - i).toNat) ⟨1, gb xs 0⟩ ⟨rfl, rfl, rfl, trivial⟩ (⟨by decide, by omega, rfl, hB⟩) ?_
  rintro ⟨i, m⟩ w1 ⟨hi0, hi1, hall, hB⟩
  refine tw_keep [(0, v), (3, .int .u8 m), (4, .int .i64 i)] ⟨rfl, rfl, rfl, trivial⟩ ?_
  refine tw_seq ?_
  refine tw_seq ?_
  refine tw_region ?_
  refine ow_g (g_mv rfl) rfl ?_
  refine ow_g (g_mv rfl) rfl ?_
  refine ow_g (g_len Try.underlying22 rfl (by first | assumption | exact Own.rd (by assumption) | exact Rd.keep0 (by assumption) hB | exact Own.rd (Own.keep0 (by assumption) hB))) rfl ?_
  refine ow_g (g_lt rfl rfl) rfl ?_
  refine ow_nil ?_
  refine tw_if rfl (fun hc1 => ?_) (fun hc1 => ?_)
  · -- yes
    refine tw_skip ?_
    refine tw_seq ?_
    refine tw_block ?_
    refine tw_region ?_
    refine ow_g (g_mv rfl) rfl ?_
    refine ow_g (g_mv rfl) rfl ?_
    refine ow_g (g_mv rfl) rfl ?_
    refine ow_g (g_ix Try.underlying22 ty5 rfl (by first | assumption | exact Own.rd (by assumption) | exact Rd.keep0 (by assumption) hB | exact Own.rd (Own.keep0 (by assumption) hB)) rfl (by omega)) rfl ?_
    refine ow_g (g_ldB sc5 rfl (by first | assumption | exact Own.rd (by assumption) | exact Rd.keep0 (by assumption) hB | exact Own.rd (Own.keep0 (by assumption) hB)) (by omega)) rfl ?_
    refine ow_g (g_max rfl rfl) rfl ?_
    refine ow_g (g_as rfl) rfl ?_
    refine ow_nil ?_
    refine tw_b ?_
    refine tw_region ?_
    refine ow_g (g_mv rfl) rfl ?_
    refine ow_g (g_add rfl rfl (by omega)) rfl ?_
    refine ow_g (g_as rfl) rfl ?_
    refine ow_nil ?_
    refine tw_inv (Γ := Int × Int) ⟨i + 1, _⟩ ⟨rfl, rfl, rfl, trivial⟩ (by (try dsimp only); omega) (⟨by omega, by omega, mxB_step hi0 hall, hB⟩)
  · -- no
    refine tw_exit rfl ?_
    refine tw_seq ?_
    refine tw_region ?_
    refine ow_g (g_mv rfl) rfl ?_
    refine ow_g (g_as rfl) rfl ?_
    refine ow_nil ?_
    refine tw_ret1 hfin Try.results42 rfl ?_
    exact ⟨by rw [hall, show i - 1 = (xs.length : Int) - 1 by omega], hB⟩
set_option maxRecDepth 100000 in
set_option maxHeartbeats 1000000 in
theorem mul_any64 (x y : Int) (hx : In x 0 18446744073709551615) (hy : In y 0 18446744073709551615) (w : World) : Rets Try.prog 78 [.int .u64 x, .int .u64 y] w (fun v w' => v = .tuple #[.int .u64 (x * y / 18446744073709551616), .int .u64 (x * y % 18446744073709551616)] ∧ w = w') := by
  refine rets_of_tw Try.func78 rfl (by decide) Try.ntmps78 rfl (fun fin _ hfin => ?_)
  refine tw_seq ?_
  refine tw_region ?_
  refine ow_g (g_as rfl) rfl ?_
  refine ow_g (g_as rfl) rfl ?_
  refine ow_nil ?_
  refine tw_seq ?_
  refine tw_cond_false rfl ?_
  refine tw_skip ?_
  refine tw_seq ?_
  refine tw_region ?_
  refine ow_g (g_mv rfl) rfl ?_
  refine ow_g (g_mv rfl) rfl ?_
  refine ow_d (d_call (vs := [_, _]) rfl (mul64_any _ _ (In.wk hx rfl) (In.wk hy rfl) _)) rfl ?_
  rintro _ _ ⟨rfl, rfl⟩
  refine ow_g (g_mv rfl) rfl ?_
  refine ow_gx (e' := (x * y / 18446744073709551616)) (lo := 0) (hi := 18446744073709551614) (g_ext (vs := [_, _]) rfl rfl) (rfl) (In.wk (in_div (in_mul hx hy (by decide) (by decide)) (by decide)) rfl) rfl (fun z1 h1 r1 => ?_)
  refine ow_gx (e' := (x * y % 18446744073709551616)) (lo := 0) (hi := 18446744073709551615) (g_ext (vs := [_, _]) rfl rfl) (rfl) (In.wk (in_mod _ (by decide)) rfl) rfl (fun z2 h2 r2 => ?_)
  refine ow_g (g_as rfl) rfl ?_
  refine ow_g (g_as rfl) rfl ?_
  refine ow_nil ?_
  refine tw_seq ?_
  refine tw_region ?_
  refine ow_g (g_mv rfl) rfl ?_
  refine ow_g (g_mv rfl) rfl ?_
  refine ow_g (g_as rfl) rfl ?_
  refine ow_g (g_as rfl) rfl ?_
  refine ow_nil ?_
  refine tw_ret2 hfin Try.results78 rfl rfl ?_
  simp only [Eqn, In] at h1 r1 h2 r2
  exact ⟨by subst_vars; rfl, rfl⟩
theorem mul_1_32 (w : World) : Rets Try.prog 78 [.int .u64 1, .int .u64 32] w (fun v w' => v = .tuple #[.int .u64 0, .int .u64 32] ∧ w = w') := mul_any64 1 32 (by decide) (by decide) w
def repN (b : UInt8) (n : Nat) : List UInt8 := List.replicate n b ++ List.replicate (32 - n) 0
theorem repN_len (b : UInt8) (n : Nat) (h : n ≤ 32) : (repN b n).length = 32 := by unfold repN; simp; omega
theorem rep_step {n : Nat} {f : Fr} {w : World} {ty : TypeId} {x y : Operand} {lo nn : Nat} {q : Value} {b : UInt8} (hx : f.ev x = some (cut q nn 32 1)) (hy : f.ev y = some (cut q 0 nn 1)) (ho : Own w lo 5 1 q 32 (bv (repN b nn))) (h1 : 1 ≤ nn) (h2 : nn < 32) :
    Does Try.prog n f w (.call { callee := .builtin .copy, args := #[x, y], argTypes := #[22, 22] }) ty
      (fun r w' => r = .int .i64 ((min nn (32 - nn) : Nat) : Int) ∧ Own w' lo 5 1 q 32 (bv (repN b (nn + min nn (32 - nn)))) ∧ Keep (vblk q) w w' ∧ w'.heap.size = w.heap.size) := by
  have hr : RdB w q (repN b nn) := by unfold RdB; rw [repN_len _ _ (by omega)]; exact ho.rd
  have hc := hr.cutB (l := 0) (hi := nn) (by omega) (by rw [repN_len _ _ (by omega)]; omega)
  have e1 : ((repN b nn).drop 0).take (nn - 0) = List.replicate nn b := by unfold repN; simp
  rw [e1] at hc
  refine (d_cpAt Try.underlying22 ty5 hx ho (by omega) hy hc (bv_one _) (s := min nn (32 - nn)) (by rw [List.length_replicate]) (by omega)).mono ?_
  rintro r w' ⟨rfl, o, k, z⟩
  refine ⟨rfl, ?_, k, z⟩
  have e2 : (bv (repN b nn)).take nn ++ (bv (List.replicate nn b)).take (min nn (32 - nn)) ++ (bv (repN b nn)).drop (nn + min nn (32 - nn)) = bv (repN b (nn + min nn (32 - nn))) := by
    rw [bv_take, bv_take, bv_drop, ← bv_append, ← bv_append]
    congr 1
    unfold repN
    rw [List.take_left' (by simp), List.take_replicate, List.drop_append, List.length_replicate, List.drop_eq_nil_of_le (by simp), List.nil_append, List.drop_replicate, Nat.min_eq_left (show min nn (32 - nn) ≤ nn by omega), ← List.replicate_append_replicate, show nn + min nn (32 - nn) - nn = min nn (32 - nn) by omega, show 32 - nn - min nn (32 - nn) = 32 - (nn + min nn (32 - nn)) by omega]
  rw [e2] at o; exact o
set_option maxRecDepth 100000 in
set_option maxHeartbeats 1000000 in
theorem repeat_any (v : Value) (b : UInt8) (w : World) (hv : Rd w 1 v 1 (bv [b])) : Rets Try.prog 57 [v, .int .i64 32] w (fun r w' => Own w' w.heap.size 5 1 r 32 (bv (repN b 32)) ∧ Keep [] w w') := by
  have hB : Keep [] w w := Keep.refl _ _
  refine rets_of_tw Try.func57 rfl (by decide) Try.ntmps57 rfl (fun fin _ hfin => ?_)
  refine tw_seq ?_
  refine tw_region ?_
  refine ow_g (g_as rfl) rfl ?_
  refine ow_nil ?_
  refine tw_seq ?_
  refine tw_seq ?_
  refine tw_region ?_
  refine ow_g (g_mv rfl) rfl ?_
  refine ow_g (g_lt rfl rfl) rfl ?_
  refine ow_nil ?_
  refine tw_ifF rfl (by decide) ?_
  refine tw_skip ?_
  refine tw_seq ?_
  refine tw_region ?_
  refine ow_g (g_mv rfl) rfl ?_
  refine ow_g (g_len Try.underlying22 rfl (by first | assumption | exact Own.rd (by assumption) | exact Rd.keep0 (by assumption) hB | exact Own.rd (Own.keep0 (by assumption) hB))) rfl ?_
  refine ow_g (g_fold (j := 1) (g_cv (by rw [Try.underlying3]; rfl) Try.underlying53 rfl) (by decide)) rfl ?_
  refine ow_g (g_mv rfl) rfl ?_
  refine ow_g (g_fold (j := 32) (g_cv (by rw [Try.underlying3]; rfl) Try.underlying53 rfl) (by decide)) rfl ?_
  refine ow_d (d_call (vs := [_, _]) rfl (mul_1_32 _)) rfl ?_
  rintro _ _ ⟨rfl, rfl⟩
  refine ow_g (g_mv rfl) rfl ?_
  refine ow_g (g_ext (vs := [_, _]) rfl rfl) rfl ?_
  refine ow_g (g_ext (vs := [_, _]) rfl rfl) rfl ?_
  refine ow_g (g_as rfl) rfl ?_
  refine ow_g (g_as rfl) rfl ?_
  refine ow_nil ?_
  refine tw_seq ?_
  refine tw_seq ?_
  refine tw_region ?_
  refine ow_g (g_mv rfl) rfl ?_
  refine ow_g (g_gt rfl rfl) rfl ?_
  refine ow_g (g_mv rfl) rfl ?_
  refine ow_grp 23 false rfl (fun c1 hgc1 => ?_)
  refine ow_gg [(6, _)] (grd1 rfl rfl rfl hgc1) ⟨und0 rfl, trivial⟩ (fun hw1 => g_mv rfl) rfl ?_
  refine ow_gg [(24, _)] (grd1 rfl rfl rfl hgc1) ⟨und1 rfl, trivial⟩ (fun hw2 => g_gt rfl rfl) rfl ?_
  refine ow_g (g_por rfl rfl hgc1) rfl ?_
  refine ow_nil ?_
  refine tw_condF rfl (by decide) ?_
  refine tw_skip ?_
  refine tw_seq ?_
  refine tw_region ?_
  refine ow_g (g_mv rfl) rfl ?_
  refine ow_g (g_fold (j := 32) (g_cv (by rw [Try.underlying53]; rfl) Try.underlying3 rfl) (by decide)) rfl ?_
  refine ow_d (d_mk Try.underlying22 ty5 rfl rfl (by omega) (by constructor <;> omega)) rfl ?_
  rintro q w1 ⟨o1, _, _, k1, _⟩
  have o2 : Own w1 w.heap.size 5 1 q 32 (List.replicate 32 (.int .u8 0)) := o1.lo hB.size
  clear o1
  replace hv := hv.keep0 k1
  replace hB := hB.trans k1
  obtain ⟨g, c, cur, rfl, hg, _, hcap1, hcap2, _, _⟩ := o2.raw (by simp)
  refine ow_g (g_as rfl) rfl ?_
  refine ow_nil ?_
  refine tw_seq ?_
  refine tw_region ?_
  refine ow_g (g_mv rfl) rfl ?_
  refine ow_g (g_mv rfl) rfl ?_
  refine ow_d (d_cp Try.underlying22 ty5 rfl o2 rfl hv (bv_one _) rfl) rfl ?_
  rintro _ w2 ⟨rfl, o3, k2, z2⟩
  replace hB := hB.new k2 (fun x hx => .inl ((List.mem_singleton.1 hx) ▸ hg))
  clear hv
  refine ow_g (g_as rfl) rfl ?_
  refine ow_nil ?_
  refine tw_seq ?_
  refine tw_block ?_
  refine tw_loop (Γ := Nat) (fun i => [(7, .slice (some ⟨g, 0, none⟩) 32 c), (8, .int .i64 (i : Int))]) (fun i W => 1 ≤ i ∧ i ≤ 32 ∧ Own W w.heap.size 5 1 (.slice (some ⟨g, 0, none⟩) 32 c) 32 (bv (repN b i)) ∧ Keep [] w W) (fun i => 32 - i) 1 ⟨rfl, rfl, trivial⟩ (⟨by decide, by decide, o3, hB⟩) ?_
  rintro i w2 ⟨hi0, hi1, o4, hB⟩
  refine tw_keep [(7, .slice (some ⟨g, 0, none⟩) 32 c), (8, .int .i64 (i : Int))] ⟨rfl, rfl, trivial⟩ ?_
  refine tw_seq ?_
  refine tw_seq ?_
  refine tw_region ?_
  refine ow_g (g_mv rfl) rfl ?_
  refine ow_g (g_mv rfl) rfl ?_
  refine ow_g (g_len Try.underlying22 rfl (by first | assumption | exact Own.rd (by assumption) | exact Rd.keep0 (by assumption) hB | exact Own.rd (Own.keep0 (by assumption) hB))) rfl ?_
  refine ow_g (g_lt rfl rfl) rfl ?_
  refine ow_nil ?_
  refine tw_if rfl (fun hc1 => ?_) (fun hc1 => ?_)
  · -- yes
    refine tw_skip ?_
    refine tw_block ?_
    refine tw_planA 8 [0, 1, 2, 3, 4, 5, 6, 7] [7] [g] [] mixed [(7, _), (8, _)] ⟨rfl, rfl, trivial⟩ (by decide +kernel) (by decide) (by decide) ?_ (fun x hx => (List.mem_singleton.1 hx) ▸ (o4.blk g (by simp [vblk])).2) rfl (fun w5 k5 => ?_)
    · intro q hq; cases hq
    replace o4 := o4.keep0 k5
    replace hB := hB.trans k5
    refine pa_g [(8, _)] rfl rfl ⟨rfl, trivial⟩ rfl (fun W' kk => g_mv rfl) ?_
    refine pa_g [(7, _)] rfl rfl ⟨rfl, trivial⟩ rfl (fun W' kk => g_mv rfl) ?_
    refine pa_g [(8, _)] rfl rfl ⟨rfl, trivial⟩ rfl (fun W' kk => g_mv rfl) ?_
    refine pa_g [(39, _), (40, _)] rfl rfl ⟨rfl, rfl, trivial⟩ rfl (fun W' kk => g_slv Try.underlying22 ty5 rfl hcap2 hcap1 (.inr ⟨_, _, rfl, rfl⟩) (.inl ⟨rfl, rfl⟩) (by omega)) ?_
    refine pa_g [(7, _)] rfl rfl ⟨rfl, trivial⟩ rfl (fun W' kk => g_mv rfl) ?_
    refine pa_g [(8, _)] rfl rfl ⟨rfl, trivial⟩ rfl (fun W' kk => g_mv rfl) ?_
    refine pa_g [(42, _), (43, _)] rfl rfl ⟨rfl, rfl, trivial⟩ rfl (fun W' kk => g_slv Try.underlying22 ty5 rfl hcap2 hcap1 (.inl ⟨rfl, rfl⟩) (.inr ⟨_, _, rfl, rfl⟩) (by omega)) ?_
    refine pa_d [(41, _), (44, _)] rfl rfl ⟨rfl, rfl, trivial⟩ rfl (fun w6 k6 => ?_)
    refine (rep_step rfl rfl (o4.keep0 k6) hi0 (by omega)).mono ?_
    rintro _ w6' ⟨rfl, o5, k6', z6⟩
    replace hB := (hB.trans k6).new k6' (fun x hx => .inl ((List.mem_singleton.1 hx) ▸ hg))
    refine ⟨k6', (fun x hx => by have hx : x ∈ ([] : List Nat) := hx; cases hx), ?_⟩
    clear o4
    refine pa_nil (fun w7 k7 => ?_)
    replace o5 := o5.keep0 k7
    replace hB := hB.trans k7
    refine fina_nil ?_
    refine ow_g (g_add rfl rfl (by omega)) rfl ?_
    refine ow_g (g_as rfl) rfl ?_
    refine ow_nil ?_
    refine tw_b ?_
    refine tw_inv (Γ := Nat) (i + min i (32 - i)) ⟨rfl, rfl, trivial⟩ (by (try dsimp only); omega) (⟨by omega, by omega, o5, hB⟩)
  · -- no
    refine tw_exit rfl ?_
    refine tw_seq ?_
    refine tw_region ?_
    refine ow_g (g_mv rfl) rfl ?_
    refine ow_g (g_as rfl) rfl ?_
    refine ow_nil ?_
    refine tw_ret1 hfin Try.results57 rfl ?_
    obtain rfl : i = 32 := by omega
    exact ⟨o4, hB⟩
end Go.Proofs.Ytkngeapegpehpaa.W
namespace Go.Proofs.Ytkngeapegpehpaa.W
open Go Go.Eng Go.Byt Go.Fld Go.Ed
def PtR (p : Nat → Int) (a : Pt) : Prop := ∃ Z, Z ≠ 0 ∧ PtEl p (a.1 * Z) (a.2 * Z) Z (a.1 * a.2 * Z)
theorem one_fp : fp 1 = 1 := by decide
theorem one_ne : (1 : Fp) ≠ 0 := by decide
theorem ptr_mk {p : Nat → Int} {X Y Z T : Fp} {a : Pt} (h : PtEl p X Y Z T) (hz : Z ≠ 0) (hx : X = a.1 * Z) (hy : Y = a.2 * Z) (ht : T = a.1 * a.2 * Z) : PtR p a := ⟨Z, hz, by subst hx hy ht; exact h⟩
theorem ptr_affine {p : Nat → Int} {x y : Fp} (h : PtEl p x y (fp 1) (x * y)) : PtR p (x, y) := by
  rw [one_fp] at h
  refine ptr_mk h one_ne ?_ ?_ ?_ <;> (show _ = _ * (1 : Fp); grind -lia -linarith)
theorem ptr_zero {p : Nat → Int} (h : PtEl p 0 (fp 1) (fp 1) (0 * fp 1)) : PtR p zero := by
  rw [one_fp] at h
  exact ptr_mk h one_ne (by decide) (by decide) (by decide)
theorem ptr_cz {X Y Z T x y u v E F G H m N M : Fp} (hu : u * inv u = 1) (hv : v * inv v = 1) (hE : E = m * N) (hG : G = m * u) (hF : F = m * v) (hH : H = m * M) (hx : x = N * inv u) (hy : y = M * inv v) (hX : X = E * F) (hY : Y = G * H) (hZ : Z = F * G) (hT : T = E * H) :
    X = x * Z ∧ Y = y * Z ∧ T = x * y * Z := by
  generalize inv u = iu at *
  generalize inv v = iv at *
  subst hE hG hF hH hx hy hX hY hZ hT
  refine ⟨?_, ?_, ?_⟩ <;> grind -lia -linarith
theorem far1' {a b : Pt} (ha : OnP a) (hb : OnP b) : 1 + d * a.1 * b.1 * a.2 * b.2 ≠ 0 := far1 ha hb
theorem far2' {a b : Pt} (ha : OnP a) (hb : OnP b) : 1 - d * a.1 * b.1 * a.2 * b.2 ≠ 0 := far2 ha hb
theorem ptr_plus {r : Nat → Int} {a b : Pt} {Z1 Z2 : Fp} (ha : OnP a) (hb : OnP b) (h1 : Z1 ≠ 0) (h2 : Z2 ≠ 0)
    (h : PtEl r (((a.1 * Z1 + a.2 * Z1) * (b.1 * Z2 + b.2 * Z2) - a.1 * Z1 * (b.1 * Z2) - a.2 * Z1 * (b.2 * Z2)) * (Z1 * Z2 - a.1 * a.2 * Z1 * (b.1 * b.2 * Z2) * d)) ((Z1 * Z2 + a.1 * a.2 * Z1 * (b.1 * b.2 * Z2) * d) * (a.2 * Z1 * (b.2 * Z2) + a.1 * Z1 * (b.1 * Z2)))
      ((Z1 * Z2 - a.1 * a.2 * Z1 * (b.1 * b.2 * Z2) * d) * (Z1 * Z2 + a.1 * a.2 * Z1 * (b.1 * b.2 * Z2) * d)) (((a.1 * Z1 + a.2 * Z1) * (b.1 * Z2 + b.2 * Z2) - a.1 * Z1 * (b.1 * Z2) - a.2 * Z1 * (b.2 * Z2)) * (a.2 * Z1 * (b.2 * Z2) + a.1 * Z1 * (b.1 * Z2)))) : PtR r (padd a b) := by
  have f1 := far1' ha hb
  have f2 := far2' ha hb
  obtain ⟨x1, y1⟩ := a
  obtain ⟨x2, y2⟩ := b
  simp only at h f1 f2
  have hF : Z1 * Z2 - x1 * y1 * Z1 * (x2 * y2 * Z2) * d = (Z1 * Z2) * (1 - d * x1 * x2 * y1 * y2) := by clear f1 f2; generalize d = e; grind -lia -linarith
  have hG : Z1 * Z2 + x1 * y1 * Z1 * (x2 * y2 * Z2) * d = (Z1 * Z2) * (1 + d * x1 * x2 * y1 * y2) := by clear f1 f2; generalize d = e; grind -lia -linarith
  have hE : (x1 * Z1 + y1 * Z1) * (x2 * Z2 + y2 * Z2) - x1 * Z1 * (x2 * Z2) - y1 * Z1 * (y2 * Z2) = (Z1 * Z2) * (x1 * y2 + y1 * x2) := by clear f1 f2; grind -lia -linarith
  have hH : y1 * Z1 * (y2 * Z2) + x1 * Z1 * (x2 * Z2) = (Z1 * Z2) * (y1 * y2 + x1 * x2) := by clear f1 f2; grind -lia -linarith
  obtain ⟨c1, c2, c3⟩ := ptr_cz (mul_inv f1) (mul_inv f2) hE hG hF hH rfl rfl rfl rfl rfl rfl
  refine ptr_mk h ?_ c1 c2 c3
  rw [hF, hG]
  exact mul_ne (mul_ne (mul_ne h1 h2) f2) (mul_ne (mul_ne h1 h2) f1)
theorem ptr_double {r : Nat → Int} {a : Pt} {Z : Fp} (ha : OnP a) (hz : Z ≠ 0)
    (h : PtEl r ((a.1 * Z * (a.1 * Z) + a.2 * Z * (a.2 * Z) - (a.1 * Z + a.2 * Z) * (a.1 * Z + a.2 * Z)) * (Z * Z + Z * Z + (a.1 * Z * (a.1 * Z) - a.2 * Z * (a.2 * Z)))) ((a.1 * Z * (a.1 * Z) - a.2 * Z * (a.2 * Z)) * (a.1 * Z * (a.1 * Z) + a.2 * Z * (a.2 * Z)))
      ((Z * Z + Z * Z + (a.1 * Z * (a.1 * Z) - a.2 * Z * (a.2 * Z))) * (a.1 * Z * (a.1 * Z) - a.2 * Z * (a.2 * Z))) ((a.1 * Z * (a.1 * Z) + a.2 * Z * (a.2 * Z) - (a.1 * Z + a.2 * Z) * (a.1 * Z + a.2 * Z)) * (a.1 * Z * (a.1 * Z) + a.2 * Z * (a.2 * Z)))) : PtR r (padd a a) := by
  have f1 := far1' ha ha
  have f2 := far2' ha ha
  obtain ⟨x, y⟩ := a
  simp only at h f1 f2
  have hon : y * y - x * x = 1 + d * x * x * y * y := ha
  have hG : x * Z * (x * Z) - y * Z * (y * Z) = (-(Z * Z)) * (1 + d * x * x * y * y) := by clear f1 f2 ha; rw [← hon]; grind -lia -linarith
  have hF : Z * Z + Z * Z + (x * Z * (x * Z) - y * Z * (y * Z)) = (Z * Z) * (1 - d * x * x * y * y) := by
    rw [hG]; clear f1 f2 ha hon hG; generalize d = e; grind -lia -linarith
  have hE : x * Z * (x * Z) + y * Z * (y * Z) - (x * Z + y * Z) * (x * Z + y * Z) = (-(Z * Z)) * (x * y + y * x) := by clear f1 f2 ha hon hG hF; grind -lia -linarith
  have hH : x * Z * (x * Z) + y * Z * (y * Z) = (Z * Z) * (y * y + x * x) := by clear f1 f2 ha hon hG hF hE; grind -lia -linarith
  have key : ∀ {X Y Z' T x3 y3 u v E F G H m N M : Fp}, u * inv u = 1 → v * inv v = 1 → E = (-m) * N → G = (-m) * u → F = m * v → H = m * M → x3 = N * inv u → y3 = M * inv v → X = E * F → Y = G * H → Z' = F * G → T = E * H → X = x3 * Z' ∧ Y = y3 * Z' ∧ T = x3 * y3 * Z' := by
    intro X Y Z' T x3 y3 u v E F G H m N M hu hv hE hG hF hH hx hy hX hY hZ hT
    generalize inv u = iu at *
    generalize inv v = iv at *
    clear f1 f2 ha hon
    subst hE hG hF hH hx hy hX hY hZ hT
    refine ⟨?_, ?_, ?_⟩ <;> grind -lia -linarith
  obtain ⟨c1, c2, c3⟩ := key (mul_inv f1) (mul_inv f2) hE hG hF hH rfl rfl rfl rfl rfl rfl
  refine ptr_mk h ?_ c1 c2 c3
  rw [hF, hG]
  have hn : -(Z * Z) ≠ 0 := fun e => mul_ne hz hz (by have : Z * Z = -(-(Z * Z)) := by grind -lia -linarith
                                                      rw [this, e]; decide)
  exact mul_ne (mul_ne (mul_ne hz hz) f2) (mul_ne hn f1)
theorem ptr_neg {r : Nat → Int} {a : Pt} {Z : Fp} (hz : Z ≠ 0) (h : PtEl r (0 - a.1 * Z) (a.2 * Z) Z (0 - a.1 * a.2 * Z)) : PtR r (pneg a) := by
  obtain ⟨x, y⟩ := a
  refine ptr_mk h hz ?_ rfl ?_ <;> (unfold pneg; simp only; grind -lia -linarith)
theorem sub_congr {p q : Nat → Int} {X Y Z T : Fp} (h : PtEl p X Y Z T) (e : ∀ c, c < 20 → p c = q c) : PtEl q X Y Z T := by
  obtain ⟨h1, h2, h3, h4⟩ := h
  refine ⟨?_, ?_, ?_, ?_⟩
  · unfold El val5 at *
    rw [← e 0 (by decide), ← e 1 (by decide), ← e 2 (by decide), ← e 3 (by decide), ← e 4 (by decide)]; exact h1
  · rw [← e 5 (by decide), ← e 6 (by decide), ← e 7 (by decide), ← e 8 (by decide), ← e 9 (by decide)]; exact h2
  · rw [← e 10 (by decide), ← e 11 (by decide), ← e 12 (by decide), ← e 13 (by decide), ← e 14 (by decide)]; exact h3
  · rw [← e 15 (by decide), ← e 16 (by decide), ← e 17 (by decide), ← e 18 (by decide), ← e 19 (by decide)]; exact h4
theorem ptr_congr {p q : Nat → Int} {a : Pt} (h : PtR p a) (e : ∀ c, c < 20 → p c = q c) : PtR q a := by
  obtain ⟨Z, hz, h⟩ := h
  exact ⟨Z, hz, sub_congr h e⟩
theorem win_start {W r : Nat → Int} {a : Pt} (h : PtR r zero) : ∀ j, j < 1 → PtR (atN (updR W (0 + 0) 20 r) (0 + j * 20)) (pmul j a) := by
  intro j hj
  obtain rfl : j = 0 := by omega
  exact ptr_congr h (fun c hc => (atN_updR_same (by omega)).symm)
theorem win_step {W r : Nat → Int} {a : Pt} {i : Int} (h0 : 1 ≤ i) (h : ∀ j, j < i.toNat → PtR (atN W (0 + j * 20)) (pmul j a)) (hr : PtR r (padd (pmul (i - 1).toNat a) a)) :
    ∀ j, j < (i + 1).toNat → PtR (atN (updR W (0 + i.toNat * 20) 20 r) (0 + j * 20)) (pmul j a) := by
  intro j hj
  by_cases hji : j < i.toNat
  · exact ptr_congr (h j hji) (fun c hc => (atN_updR_other (by omega)).symm)
  · have e : j = i.toNat := by omega
    subst e
    have e2 : pmul i.toNat a = padd (pmul (i - 1).toNat a) a := by
      rw [show i.toNat = (i - 1).toNat + 1 by omega]; rfl
    rw [e2]
    exact ptr_congr hr (fun c hc => (atN_updR_same (by omega)).symm)
def nib (xs : List UInt8) (i : Int) : Int := leI xs / 16 ^ i.toNat % 16
theorem nib_in (xs : List UInt8) (i : Int) : In (nib xs i) 0 15 := by unfold nib In; omega
theorem leI_get : ∀ (xs : List UInt8) (j : Nat), j < xs.length → leI xs / 256 ^ j % 256 = gb xs (j : Int)
  | [], j, h => by simp at h
  | x :: r, 0, _ => by
    have hx := x.toNat_lt
    simp [leI, gb]; omega
  | x :: r, j + 1, h => by
    have ih := leI_get r j (by simpa using h)
    have hx := x.toNat_lt
    have e : leI (x :: r) / 256 ^ (j + 1) = leI r / 256 ^ j := by
      rw [Int.pow_succ, Int.mul_comm, ← Int.ediv_ediv_of_nonneg (by omega)]
      congr 1
      simp only [leI]; omega
    rw [e, ih]
    unfold gb; congr 2
theorem shr_0 (x : Int) : x / 2 ^ (0 : Nat) = x := by simp
theorem nib_eq {xs : List UInt8} {i : Int} (hx : xs.length = 32) (h0 : 0 ≤ i) (h1 : i ≤ 63) : bits .and .u8 (gb xs (i / 2) / 2 ^ (4 * (i % 2) : Int).toNat) 15 = nib xs i := by
  have hg := leI_get xs (i / 2).toNat (by omega)
  rw [show ((i / 2).toNat : Int) = i / 2 by omega] at hg
  have gr := gb_range xs (i / 2)
  have hn : 0 ≤ leI xs := (leI_bound xs).1
  by_cases ho : i % 2 = 0
  · rw [ho, show (4 * (0 : Int)).toNat = 0 from rfl, shr_0, and_mod (k := .u8) (a := 0) (b := 255) 4 (c := 15) (m := 16) gr rfl rfl rfl rfl rfl rfl]
    unfold nib
    rw [show i.toNat = (i / 2).toNat + (i / 2).toNat by omega, Int.pow_add, ← Int.mul_pow, show (16 : Int) * 16 = 256 from rfl]
    omega
  · have ho : i % 2 = 1 := by omega
    rw [ho, show (4 * (1 : Int)).toNat = 4 from rfl, and_mod (k := .u8) (a := 0) (b := 15) 4 (c := 15) (m := 16) (by unfold In; omega) rfl rfl rfl rfl rfl rfl]
    unfold nib
    have e : (16 : Int) ^ i.toNat = 256 ^ (i / 2).toNat * 16 := by
      rw [show i.toNat = (i / 2).toNat + (i / 2).toNat + 1 by omega, Int.pow_succ, Int.pow_add, ← Int.mul_pow, show (16 : Int) * 16 = 256 from rfl]
    rw [e, ← Int.ediv_ediv_of_nonneg (Int.pow_nonneg (by decide)), show (2 : Int) ^ 4 = 16 from rfl]
    omega
def topN (xs : List UInt8) (i : Int) : Nat := (leI xs / 16 ^ i.toNat).toNat
theorem topN_all {xs : List UInt8} (hx : xs.length = 32) : topN xs 64 = 0 := by
  have h := leI_bound xs
  rw [hx] at h
  unfold topN
  rw [show (16 : Int) ^ (64 : Int).toNat = 256 ^ 32 by decide +kernel, Int.ediv_eq_zero_of_lt h.1 h.2]; rfl
theorem topN_zero (xs : List UInt8) : topN xs 0 = (leI xs).toNat := by unfold topN; simp
theorem topN_step {xs : List UInt8} {i : Int} (h0 : 0 ≤ i) : topN xs i = topN xs (i + 1) * 16 + (nib xs i).toNat := by
  have hn : 0 ≤ leI xs := (leI_bound xs).1
  have hp : 0 ≤ leI xs / 16 ^ i.toNat := Int.ediv_nonneg hn (Int.pow_nonneg (by decide))
  unfold topN nib
  rw [show (i + 1).toNat = i.toNat + 1 by omega, Int.pow_succ, ← Int.ediv_ediv_of_nonneg (Int.pow_nonneg (by decide))]
  generalize leI xs / 16 ^ i.toNat = q at *
  omega
theorem pmul_two {a : Pt} (h : OnP a) (m : Nat) : padd (pmul m a) (pmul m a) = pmul (m * 2) a := by rw [Nat.mul_two, pmul_add h]
theorem pmul_dig {a : Pt} (h : OnP a) {xs : List UInt8} {i : Int} (h0 : 0 ≤ i) : padd (pmul (topN xs (i + 1) * 16) a) (pmul (nib xs i).toNat a) = pmul (topN xs i) a := by rw [← pmul_add h, ← topN_step h0]
end Go.Proofs.Ytkngeapegpehpaa.W
namespace Go.Proofs.Ytkngeapegpehpaa.W
open Go Go.Eng Go.Byt
set_option linter.unusedVariables false
set_option linter.unusedSimpArgs false
open Go.Fld Go.Ed
attribute [local irreducible] encB
def decLow (xs : List UInt8) : List UInt8 := xs.set 31 (UInt8.ofNat (bits .andNot .u8 (gb xs 31) 128).toNat)
def decY (xs : List UInt8) : Fp := fp (leI (decLow xs))
def decOdd (xs : List UInt8) : Bool := decide (gb xs 31 / 128 = 1)
def decU (y : Fp) : Fp := y * y - fp 1
def decV (y : Fp) : Fp := d * (y * y) + fp 1
def decE (xs : List UInt8) : Int := if xs.length ≠ 32 then 1 else if fpB (decY xs) ≠ decLow xs then 30 else if (!rootOk (decU (decY xs)) (decV (decY xs)) || (decOdd xs && decide (rootF (decU (decY xs)) (decV (decY xs)) = 0))) = true then 30 else 0
def decX (xs : List UInt8) : Fp := if decOdd xs = true then 0 - rootF (decU (decY xs)) (decV (decY xs)) else rootF (decU (decY xs)) (decV (decY xs))
theorem decLow_len (xs : List UInt8) (hx : xs.length = 32) : (decLow xs).length = 32 := by unfold decLow; rw [List.length_set, hx]
theorem fp_fpB (a : Fp) : fp (leI (fpB a)) = a := by
  have h := a.isLt
  have hp : (P : Int) < 256 ^ 32 := by decide +kernel
  unfold fpB
  rw [leI_leB 32 (a.val : Int) (by omega) (by omega), fp_self]
theorem gb_fpB_zero (a : Fp) : (∀ j : Nat, j ≤ 31 → gb (fpB a) j = 0) ↔ a = 0 := by
  constructor
  · intro h
    refine fpB_inj (List.ext_getElem (by rw [fpB_length, fpB_length]) (fun j h1 h2 => ?_))
    have g := h j (by rw [fpB_length] at h1; omega)
    have g0 : gb (fpB (0 : Fp)) j = 0 := by
      have hj : j < 32 := by rwa [fpB_length] at h1
      have : ∀ j : Nat, j < 32 → gb (fpB (0 : Fp)) (j : Int) = 0 := by decide +kernel
      exact this j hj
    unfold gb at g g0
    rw [Int.toNat_natCast, List.getD_eq_getElem?_getD, List.getElem?_eq_getElem h1] at g
    rw [Int.toNat_natCast, List.getD_eq_getElem?_getD, List.getElem?_eq_getElem h2] at g0
    simp only [Option.getD_some] at g g0
    exact UInt8.toNat_inj.1 (by omega)
  · rintro rfl
    have : ∀ j : Nat, j < 32 → gb (fpB (0 : Fp)) (j : Int) = 0 := by decide +kernel
    intro j hj; exact this j (by omega)
theorem mx_fpB (a : Fp) : decide (mxB (fpB a) (((fpB a).length : Int) - 1).toNat = 0) = decide (a = 0) := by
  rw [fpB_length]
  exact decide_eq_decide.2 ((mxB_zero _ _).trans (gb_fpB_zero a))
theorem dec_e1 {xs : List UInt8} (hx : xs.length = 32) (h : ¬ fpB (fp (leI (decLow xs))) = decLow xs) : decE xs = 30 := by
  unfold decE decY; rw [if_neg (by omega), if_pos h]
theorem dec_b {xs : List UInt8} {z : Int} {c : Bool} {U V : Fp} (hz : Eqn z (gb xs 31 / 128)) (hU : U = decU (decY xs)) (hV : V = decV (decY xs))
    (h : (!rootOk (fp (leI (fpB U))) (fp (leI (fpB V))) || decide (z = 1) && decide (mxB (fpB (rootF (fp (leI (fpB U))) (fp (leI (fpB V))))) (((fpB (rootF (fp (leI (fpB U))) (fp (leI (fpB V))))).length : Int) - 1).toNat = 0)) = c) :
    (!rootOk (decU (decY xs)) (decV (decY xs)) || (decOdd xs && decide (rootF (decU (decY xs)) (decV (decY xs)) = 0))) = c := by
  unfold Eqn at hz
  subst hz hU hV
  rw [mx_fpB, fp_fpB, fp_fpB] at h
  exact h
theorem dec_e2 {xs : List UInt8} {z : Int} (hx : xs.length = 32) (h1 : ¬¬ fpB (fp (leI (decLow xs))) = decLow xs) (h : (!rootOk (decU (decY xs)) (decV (decY xs)) || (decOdd xs && decide (rootF (decU (decY xs)) (decV (decY xs)) = 0))) = true) : decE xs = 30 := by
  have h1 : ¬ fpB (decY xs) ≠ decLow xs := h1
  unfold decE; rw [if_neg (by omega), if_neg h1, if_pos h]
theorem dec_e0 {xs : List UInt8} {z : Int} (hx : xs.length = 32) (h1 : ¬¬ fpB (fp (leI (decLow xs))) = decLow xs) (h : (!rootOk (decU (decY xs)) (decV (decY xs)) || (decOdd xs && decide (rootF (decU (decY xs)) (decV (decY xs)) = 0))) = false) : decE xs = 0 := by
  have h1 : ¬ fpB (decY xs) ≠ decLow xs := h1
  unfold decE; rw [if_neg (by omega), if_neg h1, if_neg (by rw [h]; decide)]
theorem dec_xT {xs : List UInt8} {z : Int} {U V : Fp} (hz : Eqn z (gb xs 31 / 128)) (hU : U = decU (decY xs)) (hV : V = decV (decY xs)) (h : z = 1) : decX xs = 0 - fp (leI (fpB (rootF (fp (leI (fpB U))) (fp (leI (fpB V)))))) := by
  unfold Eqn at hz
  subst hU hV
  rw [fp_fpB, fp_fpB, fp_fpB]
  unfold decX
  rw [if_pos (by unfold decOdd; rw [← hz]; exact decide_eq_true h)]
theorem dec_xF {xs : List UInt8} {z : Int} {U V : Fp} (hz : Eqn z (gb xs 31 / 128)) (hU : U = decU (decY xs)) (hV : V = decV (decY xs)) (h : ¬ z = 1) : decX xs = fp (leI (fpB (rootF (fp (leI (fpB U))) (fp (leI (fpB V)))))) := by
  unfold Eqn at hz
  subst hU hV
  rw [fp_fpB, fp_fpB, fp_fpB]
  unfold decX
  rw [if_neg (by unfold decOdd; rw [← hz, decide_eq_false h]; decide)]
set_option maxRecDepth 100000 in
set_option maxHeartbeats 1000000 in
theorem Pdecode_32 (v : Value) (xs : List UInt8) (w : World) (hv : RdB w v xs) (hx : xs.length = 32) : Rets Try.prog 9 [v] w (fun v w' => ∃ p, v = .tuple #[.agg (iv .u64 20 p).toArray, .int .i64 (decE xs)] ∧ (decE xs = 0 → PtEl p (decX xs) (decY xs) (fp 1) (decX xs * decY xs)) ∧ (decE xs ≠ 0 → p = fun _ => 0) ∧ Keep [] w w') := by
 have hB : Keep [] w w := Keep.refl _ _
 refine rets_of_tw Try.func9 rfl (by decide) Try.ntmps9 rfl (fun fin _ hfin => ?_)
 refine tw_seq (tw_region (ow_d (d_alloc ty30) rfl ?_))
 rintro _ w1 ⟨b1, rfl, eb1, hb1, k1, z1⟩
 have ge_b1 : w.heap.size ≤ b1 := by have := hB.size; omega
 replace hB := hB.trans k1
 clear eb1 z1
 refine ow_g (g_as rfl) rfl (ow_nil (tw_seq (tw_seq (tw_region (ow_g (g_mv rfl) rfl (ow_g (g_len Try.underlying22 rfl (by first | assumption | exact Own.rd ‹_› | exact Rd.keep0 ‹_› hB | exact Own.rd (Own.keep0 ‹_› hB))) rfl ?_))))))
 refine ow_g (g_ne rfl rfl) rfl ?_
 refine ow_nil (tw_ifF rfl (by omega) ?_)
 refine tw_skip (tw_seq (tw_region (ow_g (g_mv rfl) rfl (ow_g (g_ix Try.underlying22 ty5 rfl (by first | assumption | exact Own.rd ‹_› | exact Rd.keep0 ‹_› hB | exact Own.rd (Own.keep0 ‹_› hB)) rfl (by omega)) rfl ?_))))
 refine ow_g (g_ldB sc5 rfl (by first | assumption | exact Own.rd ‹_› | exact Rd.keep0 ‹_› hB | exact Own.rd (Own.keep0 ‹_› hB)) (by omega)) rfl ?_
 refine ow_gx (e' := (gb xs (31)) / 128) (lo := 0) (hi := 1) (g_shrp (m := 128) rfl rfl (by decide) rfl) (rfl) (In.wk (in_div (gb_range xs (31)) (by decide)) rfl) rfl (fun z2 h1 r1 => ?_)
 refine ow_g (g_eq rfl rfl) rfl ?_
 refine ow_g (g_as rfl) rfl (ow_nil (tw_seq (tw_region (ow_g (g_mv rfl) rfl (ow_d (d_call (vs := [_]) rfl (clone_any _ xs _ (by first | assumption | exact Own.rd ‹_› | exact Rd.keep0 ‹_› hB | exact Own.rd (Own.keep0 ‹_› hB)) (by omega))) rfl ?_)))))
 rintro v1 w2 ⟨o1, k2, _⟩
 have gl_o1 := hB.size
 have sb_b1_o1 := fun x hx => (show x ≠ b1 from by have h1 := (o1.blk x hx).1; have h2 := hb1.lt; omega)
 replace hb1 := hb1.keep0 k2
 replace hB := hB.trans k2
 have u_o1 := o1.blk
 refine ow_g (g_as rfl) rfl (ow_nil (tw_keep [(2, _), (4, _), (5, _)] ⟨rfl, rfl, rfl, trivial⟩ ?_))
 refine tw_seq (tw_region (ow_g (g_mv rfl) rfl (ow_g (g_ix Try.underlying22 ty5 rfl (by first | assumption | exact Own.rd ‹_› | exact Rd.keep0 ‹_› hB | exact Own.rd (Own.keep0 ‹_› hB)) rfl (by omega)) rfl ?_)))
 refine ow_g (g_ldB sc5 rfl (by first | assumption | exact Own.rd ‹_› | exact Rd.keep0 ‹_› hB | exact Own.rd (Own.keep0 ‹_› hB)) (by omega)) rfl ?_
 refine ow_g (g_andNot rfl rfl) rfl ?_
 refine ow_g (g_ix Try.underlying22 ty5 rfl (by first | assumption | exact Own.rd ‹_› | exact Rd.keep0 ‹_› hB | exact Own.rd (Own.keep0 ‹_› hB)) rfl (by omega)) rfl ?_
 refine ow_d0 (d_sto (u := .int .u8 _) ty5 rfl rfl rfl o1 (by rw [bv_length, hx]; decide)) ?_
 rintro _ w99 ⟨ow2, k99, z99⟩
 replace hB := hB.new k99 (fun x hx => .inl (Nat.le_trans gl_o1 (o1.blk x hx).1))
 replace ow2 : OwnB w99 w.heap.size v1 (decLow xs) := by unfold OwnB decLow; rw [List.length_set, ← bv_setB (bits_in (k := .u8) rfl _ _ _)]; exact ow2.lo gl_o1
 replace hb1 := hb1.keep k99 (fun hm => sb_b1_o1 _ hm rfl)
 refine ow_nil (tw_seq (tw_region (ow_g (g_mv rfl) rfl (ow_d (d_call (vs := [_]) rfl (from_any _ (decLow xs) _ ow2.rd (decLow_len xs hx))) rfl ?_))))
 rintro _ w3 ⟨hh1, rfl, E1, k3⟩
 replace hb1 := hb1.keep0 k3
 replace ow2 := ow2.keep0 k3
 replace hB := hB.trans k3
 refine ow_g (g_mv rfl) rfl (ow_g (g_ext (vs := [_, _]) rfl rfl) rfl ?_)
 refine ow_g (g_ext (vs := [_, _]) rfl rfl) rfl ?_
 refine ow_d (d_alloc ty28) rfl ?_
 rintro _ w4 ⟨b2, rfl, eb2, hb2, k4, z3⟩
 have ge_b2 : w.heap.size ≤ b2 := by have := hB.size; omega
 have ne_b1_b2 : b1 ≠ b2 := by have := hb1.lt; omega
 have sb_b2_ow2 := fun x hx => (show x ≠ b2 from by have := (ow2.blk x hx).2; omega)
 replace hb1 := hb1.keep0 k4
 replace ow2 := ow2.keep0 k4
 replace hB := hB.trans k4
 clear eb2 z3
 refine ow_d0 (d_sta ty28 rfl rfl rfl ivF_one hb2 rfl) ?_
 rintro _ w5 ⟨hb3, k5, z4⟩
 replace hb1 := hb1.keep k5 (fun hm => absurd (List.mem_singleton.1 hm) ne_b1_b2)
 replace ow2 := ow2.keep k5 (fun x hx hm => sb_b2_ow2 x hx (List.mem_singleton.1 hm))
 replace hB := hB.new k5 (fun x hx => .inl ((List.mem_singleton.1 hx) ▸ ge_b2))
 clear z4
 replace hb3 : Bk w5 b2 _ [.int .u64 (hh1 0), .int .u64 (hh1 1), .int .u64 (hh1 2), .int .u64 (hh1 3), .int .u64 (hh1 4)] := hb3
 refine ow_g (g_as rfl) rfl (ow_nil (tw_keep [(2, _), (4, _), (5, _), (6, _)] ⟨rfl, rfl, rfl, rfl, trivial⟩ ?_))
 refine tw_seq (tw_seq (tw_region (ow_g (g_ldab (cs' := [_, _, _, _, _]) ag28 ty28 rfl hb3 rfl rfl) rfl ?_)))
 refine ow_d (d_call (vs := [_]) rfl (nbytes_any _ _ E1 _)) rfl ?_
 rintro v2 w6 ⟨o2, k6⟩
 have gl_o2 := hB.size
 have sb_b1_o2 := fun x hx => (show x ≠ b1 from by have h1 := (o2.blk x hx).1; have h2 := hb1.lt; omega)
 have sb_b2_o2 := fun x hx => (show x ≠ b2 from by have h1 := (o2.blk x hx).1; have h2 := hb3.lt; omega)
 replace hb1 := hb1.keep0 k6
 replace ow2 := ow2.keep0 k6
 replace hb3 := hb3.keep0 k6
 replace hB := hB.trans k6
 have u_o2 := o2.blk
 refine ow_g (g_mv rfl) rfl (ow_d (d_call (vs := [_, _]) rfl (equal_any _ _ (fpB (fp (leI (decLow xs)))) (decLow xs) _ o2.rd ow2.rd)) rfl ?_)
 rintro _ w7 ⟨rfl, k7⟩
 replace hb1 := hb1.keep0 k7
 replace ow2 := ow2.keep0 k7
 replace hb3 := hb3.keep0 k7
 replace o2 := o2.keep0 k7
 replace hB := hB.trans k7
 refine ow_g (g_notd rfl) rfl ?_
 refine ow_nil (tw_if rfl (fun hc1 => ?_) (fun hc1 => ?_))
 ·
  refine tw_seq (tw_region (ow_g (g_bld (idx := []) (xs := []) (vs := []) (css := []) (out := [_, _, _, _, _, _, _, _, _, _, _, _, _, _, _, _, _, _, _, _]) pl30 ty30 rfl rfl trivial rfl rfl) rfl ?_))
  refine ow_d0 (d_sta ty30 rfl rfl rfl (by simp only [List.forall_mem_cons]; refine ⟨rfl, rfl, rfl, rfl, rfl, rfl, rfl, rfl, rfl, rfl, rfl, rfl, rfl, rfl, rfl, rfl, rfl, rfl, rfl, rfl, fun v hv => by cases hv⟩) hb1 rfl) ?_
  rintro _ w8 ⟨hb4, k8, z5⟩
  replace ow2 := ow2.keep k8 (fun x hx hm => sb_b1_o1 x hx (List.mem_singleton.1 hm))
  replace hb3 := hb3.keep k8 (fun hm => absurd (List.mem_singleton.1 hm) (Ne.symm ne_b1_b2))
  replace o2 := o2.keep k8 (fun x hx hm => sb_b1_o2 x hx (List.mem_singleton.1 hm))
  replace hB := hB.new k8 (fun x hx => .inl ((List.mem_singleton.1 hx) ▸ ge_b1))
  clear z5
  replace hb4 : Bk w8 b1 _ [.int .u64 0, .int .u64 0, .int .u64 0, .int .u64 0, .int .u64 0, .int .u64 0, .int .u64 0, .int .u64 0, .int .u64 0, .int .u64 0, .int .u64 0, .int .u64 0, .int .u64 0, .int .u64 0, .int .u64 0, .int .u64 0, .int .u64 0, .int .u64 0, .int .u64 0, .int .u64 0] := hb4
  refine ow_g (g_as rfl) rfl (ow_nil (tw_retct hfin Try.results9 rfl (run_loadAgg ag30 ty30 ‹_› rfl) rfl ?_))
  have he := dec_e1 hx hc1
  exact ⟨fun _ => 0, by rw [he]; rfl, fun h => by rw [he] at h; exact absurd h (by decide), fun _ => rfl, hB⟩
 ·
  refine tw_skip (tw_seq (tw_region (ow_d (d_call (vs := [_]) rfl (Small_any _ (by decide) _)) rfl ?_)))
  rintro _ w9 ⟨hh2, rfl, E2, k9⟩
  replace hb1 := hb1.keep0 k9
  replace ow2 := ow2.keep0 k9
  replace hb3 := hb3.keep0 k9
  replace o2 := o2.keep0 k9
  replace hB := hB.trans k9
  refine ow_d (d_alloc ty28) rfl ?_
  rintro _ w10 ⟨b3, rfl, eb3, hb5, k10, z6⟩
  have ge_b3 : w.heap.size ≤ b3 := by have := hB.size; omega
  have ne_b1_b3 : b1 ≠ b3 := by have := hb1.lt; omega
  have sb_b3_ow2 := fun x hx => (show x ≠ b3 from by have := (ow2.blk x hx).2; omega)
  have ne_b2_b3 : b2 ≠ b3 := by have := hb3.lt; omega
  have sb_b3_o2 := fun x hx => (show x ≠ b3 from by have := (o2.blk x hx).2; omega)
  replace hb1 := hb1.keep0 k10
  replace ow2 := ow2.keep0 k10
  replace hb3 := hb3.keep0 k10
  replace o2 := o2.keep0 k10
  replace hB := hB.trans k10
  clear eb3 z6
  refine ow_d0 (d_sta ty28 rfl rfl rfl ivF_one hb5 rfl) ?_
  rintro _ w11 ⟨hb6, k11, z7⟩
  replace hb1 := hb1.keep k11 (fun hm => absurd (List.mem_singleton.1 hm) ne_b1_b3)
  replace ow2 := ow2.keep k11 (fun x hx hm => sb_b3_ow2 x hx (List.mem_singleton.1 hm))
  replace hb3 := hb3.keep k11 (fun hm => absurd (List.mem_singleton.1 hm) ne_b2_b3)
  replace o2 := o2.keep k11 (fun x hx hm => sb_b3_o2 x hx (List.mem_singleton.1 hm))
  replace hB := hB.new k11 (fun x hx => .inl ((List.mem_singleton.1 hx) ▸ ge_b3))
  clear z7
  replace hb6 : Bk w11 b3 _ [.int .u64 (hh2 0), .int .u64 (hh2 1), .int .u64 (hh2 2), .int .u64 (hh2 3), .int .u64 (hh2 4)] := hb6
  refine ow_nil (tw_seq (tw_region (ow_g (g_ldab (cs' := [_, _, _, _, _]) ag28 ty28 rfl hb3 rfl rfl) rfl ?_)))
  refine ow_g (g_ldab (cs' := [_, _, _, _, _]) ag28 ty28 rfl hb3 rfl rfl) rfl ?_
  refine ow_d (d_call (vs := [_, _]) rfl (ntimes_any _ _ _ _ E1 E1 _)) rfl ?_
  rintro _ w12 ⟨hh3, rfl, E3, k12⟩
  replace hb1 := hb1.keep0 k12
  replace ow2 := ow2.keep0 k12
  replace hb3 := hb3.keep0 k12
  replace o2 := o2.keep0 k12
  replace hb6 := hb6.keep0 k12
  replace hB := hB.trans k12
  refine ow_d (d_alloc ty28) rfl ?_
  rintro _ w13 ⟨b4, rfl, eb4, hb7, k13, z8⟩
  have ge_b4 : w.heap.size ≤ b4 := by have := hB.size; omega
  have ne_b1_b4 : b1 ≠ b4 := by have := hb1.lt; omega
  have sb_b4_ow2 := fun x hx => (show x ≠ b4 from by have := (ow2.blk x hx).2; omega)
  have ne_b2_b4 : b2 ≠ b4 := by have := hb3.lt; omega
  have sb_b4_o2 := fun x hx => (show x ≠ b4 from by have := (o2.blk x hx).2; omega)
  have ne_b3_b4 : b3 ≠ b4 := by have := hb6.lt; omega
  replace hb1 := hb1.keep0 k13
  replace ow2 := ow2.keep0 k13
  replace hb3 := hb3.keep0 k13
  replace o2 := o2.keep0 k13
  replace hb6 := hb6.keep0 k13
  replace hB := hB.trans k13
  clear eb4 z8
  refine ow_d0 (d_sta ty28 rfl rfl rfl ivF_one hb7 rfl) ?_
  rintro _ w14 ⟨hb8, k14, z9⟩
  replace hb1 := hb1.keep k14 (fun hm => absurd (List.mem_singleton.1 hm) ne_b1_b4)
  replace ow2 := ow2.keep k14 (fun x hx hm => sb_b4_ow2 x hx (List.mem_singleton.1 hm))
  replace hb3 := hb3.keep k14 (fun hm => absurd (List.mem_singleton.1 hm) ne_b2_b4)
  replace o2 := o2.keep k14 (fun x hx hm => sb_b4_o2 x hx (List.mem_singleton.1 hm))
  replace hb6 := hb6.keep k14 (fun hm => absurd (List.mem_singleton.1 hm) ne_b3_b4)
  replace hB := hB.new k14 (fun x hx => .inl ((List.mem_singleton.1 hx) ▸ ge_b4))
  clear z9
  replace hb8 : Bk w14 b4 _ [.int .u64 (hh3 0), .int .u64 (hh3 1), .int .u64 (hh3 2), .int .u64 (hh3 3), .int .u64 (hh3 4)] := hb8
  refine ow_nil (tw_keep [(2, _), (4, _), (6, _), (8, _), (9, _)] ⟨rfl, rfl, rfl, rfl, rfl, trivial⟩ ?_)
  refine tw_seq (tw_plan 17 [0, 1, 5, 7, 2, 3, 4, 6, 8, 9, 10, 11, 12, 13, 14, 15, 16] [2, 3, 4, 6, 8, 9, 10] [] mixed [(9, _), (8, _), (2, _), (4, _), (6, _)] ⟨rfl, rfl, rfl, rfl, rfl, trivial⟩ (by decide +kernel) rfl (fun w15 k15 => ?_))
  replace hb1 := hb1.keep0 k15
  replace ow2 := ow2.keep0 k15
  replace hb3 := hb3.keep0 k15
  replace o2 := o2.keep0 k15
  replace hb6 := hb6.keep0 k15
  replace hb8 := hb8.keep0 k15
  replace hB := hB.trans k15
  refine pw_g [(9, _)] rfl rfl ⟨rfl, trivial⟩ rfl (fun W' kk => g_ldab (cs' := [_, _, _, _, _]) ag28 ty28 rfl (Bk.keep0 hb8 kk) rfl rfl) ?_
  refine pw_g [(8, _)] rfl rfl ⟨rfl, trivial⟩ rfl (fun W' kk => g_ldab (cs' := [_, _, _, _, _]) ag28 ty28 rfl (Bk.keep0 hb6 kk) rfl rfl) ?_
  refine pw_g [(9, _)] rfl rfl ⟨rfl, trivial⟩ rfl (fun W' kk => g_ldab (cs' := [_, _, _, _, _]) ag28 ty28 rfl (Bk.keep0 hb8 kk) rfl rfl) ?_
  refine pw_g [(8, _)] rfl rfl ⟨rfl, trivial⟩ rfl (fun W' kk => g_ldab (cs' := [_, _, _, _, _]) ag28 ty28 rfl (Bk.keep0 hb6 kk) rfl rfl) ?_
  refine pw_d [(46, _), (47, _)] rfl rfl ⟨rfl, rfl, trivial⟩ rfl (d_call (vs := [_, _]) rfl (nminus_any _ _ _ _ E3 E2 _)) ?_
  rintro _ w16 ⟨hh4, rfl, E4, k16⟩
  refine ⟨k16, ?_⟩
  replace hb1 := hb1.keep0 k16
  replace ow2 := ow2.keep0 k16
  replace hb3 := hb3.keep0 k16
  replace o2 := o2.keep0 k16
  replace hb6 := hb6.keep0 k16
  replace hb8 := hb8.keep0 k16
  replace hB := hB.trans k16
  refine pw_d [(48, _)] rfl rfl ⟨rfl, trivial⟩ rfl (d_call (vs := [_]) rfl (nbytes_any _ _ E4 _)) ?_
  rintro v3 w17 ⟨o3, k17⟩
  refine ⟨k17, ?_⟩
  have gl_o3 := hB.size
  have sb_b1_o3 := fun x hx => (show x ≠ b1 from by have h1 := (o3.blk x hx).1; have h2 := hb1.lt; omega)
  have sb_b2_o3 := fun x hx => (show x ≠ b2 from by have h1 := (o3.blk x hx).1; have h2 := hb3.lt; omega)
  have sb_b3_o3 := fun x hx => (show x ≠ b3 from by have h1 := (o3.blk x hx).1; have h2 := hb6.lt; omega)
  have sb_b4_o3 := fun x hx => (show x ≠ b4 from by have h1 := (o3.blk x hx).1; have h2 := hb8.lt; omega)
  replace hb1 := hb1.keep0 k17
  replace ow2 := ow2.keep0 k17
  replace hb3 := hb3.keep0 k17
  replace o2 := o2.keep0 k17
  replace hb6 := hb6.keep0 k17
  replace hb8 := hb8.keep0 k17
  replace hB := hB.trans k17
  have u_o3 := o3.blk
  refine pw_d [] rfl rfl trivial rfl (d_call (vs := []) rfl (pd_any _)) ?_
  rintro _ w18 ⟨hh5, rfl, E5, k18⟩
  refine ⟨k18, ?_⟩
  replace hb1 := hb1.keep0 k18
  replace ow2 := ow2.keep0 k18
  replace hb3 := hb3.keep0 k18
  replace o2 := o2.keep0 k18
  replace hb6 := hb6.keep0 k18
  replace hb8 := hb8.keep0 k18
  replace o3 := o3.keep0 k18
  replace hB := hB.trans k18
  refine pw_d [(50, _), (51, _)] rfl rfl ⟨rfl, rfl, trivial⟩ rfl (d_call (vs := [_, _]) rfl (ntimes_any _ _ _ _ E5 E3 _)) ?_
  rintro _ w19 ⟨hh6, rfl, E6, k19⟩
  refine ⟨k19, ?_⟩
  replace hb1 := hb1.keep0 k19
  replace ow2 := ow2.keep0 k19
  replace hb3 := hb3.keep0 k19
  replace o2 := o2.keep0 k19
  replace hb6 := hb6.keep0 k19
  replace hb8 := hb8.keep0 k19
  replace o3 := o3.keep0 k19
  replace hB := hB.trans k19
  refine pw_d [(52, _), (53, _)] rfl rfl ⟨rfl, rfl, trivial⟩ rfl (d_call (vs := [_, _]) rfl (nplus_any _ _ _ _ E6 E2 _)) ?_
  rintro _ w20 ⟨hh7, rfl, E7, k20⟩
  refine ⟨k20, ?_⟩
  replace hb1 := hb1.keep0 k20
  replace ow2 := ow2.keep0 k20
  replace hb3 := hb3.keep0 k20
  replace o2 := o2.keep0 k20
  replace hb6 := hb6.keep0 k20
  replace hb8 := hb8.keep0 k20
  replace o3 := o3.keep0 k20
  replace hB := hB.trans k20
  refine pw_d [(54, _)] rfl rfl ⟨rfl, trivial⟩ rfl (d_call (vs := [_]) rfl (nbytes_any _ _ E7 _)) ?_
  rintro v4 w21 ⟨o4, k21⟩
  refine ⟨k21, ?_⟩
  have gl_o4 := hB.size
  have sb_b1_o4 := fun x hx => (show x ≠ b1 from by have h1 := (o4.blk x hx).1; have h2 := hb1.lt; omega)
  have sb_b2_o4 := fun x hx => (show x ≠ b2 from by have h1 := (o4.blk x hx).1; have h2 := hb3.lt; omega)
  have sb_b3_o4 := fun x hx => (show x ≠ b3 from by have h1 := (o4.blk x hx).1; have h2 := hb6.lt; omega)
  have sb_b4_o4 := fun x hx => (show x ≠ b4 from by have h1 := (o4.blk x hx).1; have h2 := hb8.lt; omega)
  replace hb1 := hb1.keep0 k21
  replace ow2 := ow2.keep0 k21
  replace hb3 := hb3.keep0 k21
  replace o2 := o2.keep0 k21
  replace hb6 := hb6.keep0 k21
  replace hb8 := hb8.keep0 k21
  replace o3 := o3.keep0 k21
  replace hB := hB.trans k21
  have u_o4 := o4.blk
  refine pw_d [(49, _), (55, _)] rfl rfl ⟨rfl, rfl, trivial⟩ rfl (d_call (vs := [_, _]) rfl (Root_any _ _ (fpB (((fp (leI (decLow xs))) * (fp (leI (decLow xs)))) - (fp 1))) (fpB (((d) * ((fp (leI (decLow xs))) * (fp (leI (decLow xs))))) + (fp 1))) _ o3.rd (fpB_length _) o4.rd (fpB_length _))) ?_
  rintro _ w22 ⟨v5, rfl, o5, k22⟩
  refine ⟨k22, ?_⟩
  have gl_o5 := hB.size
  have sb_b1_o5 := fun x hx => (show x ≠ b1 from by have h1 := (o5.blk x hx).1; have h2 := hb1.lt; omega)
  have sb_b2_o5 := fun x hx => (show x ≠ b2 from by have h1 := (o5.blk x hx).1; have h2 := hb3.lt; omega)
  have sb_b3_o5 := fun x hx => (show x ≠ b3 from by have h1 := (o5.blk x hx).1; have h2 := hb6.lt; omega)
  have sb_b4_o5 := fun x hx => (show x ≠ b4 from by have h1 := (o5.blk x hx).1; have h2 := hb8.lt; omega)
  replace hb1 := hb1.keep0 k22
  replace ow2 := ow2.keep0 k22
  replace hb3 := hb3.keep0 k22
  replace o2 := o2.keep0 k22
  replace hb6 := hb6.keep0 k22
  replace hb8 := hb8.keep0 k22
  replace o3 := o3.keep0 k22
  replace o4 := o4.keep0 k22
  replace hB := hB.trans k22
  have u_o5 := o5.blk
  refine pw_g [(56, _)] rfl rfl ⟨rfl, trivial⟩ rfl (fun W' kk => g_mv rfl) ?_
  refine pw_g [(45, _)] rfl rfl ⟨rfl, trivial⟩ rfl (fun W' kk => g_ext (vs := [_, _, _]) rfl rfl) ?_
  refine pw_g [(45, _)] rfl rfl ⟨rfl, trivial⟩ rfl (fun W' kk => g_ext (vs := [_, _, _]) rfl rfl) ?_
  refine pw_g [(45, _)] rfl rfl ⟨rfl, trivial⟩ rfl (fun W' kk => g_ext (vs := [_, _, _]) rfl rfl) ?_
  refine pw_g [(57, _)] rfl rfl ⟨rfl, trivial⟩ rfl (fun W' kk => g_as rfl) ?_
  refine pw_g [(58, _)] rfl rfl ⟨rfl, trivial⟩ rfl (fun W' kk => g_as rfl) ?_
  refine pw_nil ?_
  refine ow_g (g_as rfl) rfl (ow_nil (tw_keep [(2, _), (4, _), (6, _), (0, _), (10, _)] ⟨rfl, rfl, rfl, rfl, rfl, trivial⟩ ?_))
  refine tw_seq (tw_seq (tw_region (ow_g (g_mv rfl) rfl (ow_g (g_not rfl) rfl ?_))))
  refine ow_g (g_mv rfl) rfl (ow_grp 62 false rfl (fun c1 hgc1 => ?_))
  refine ow_gg [(4, _)] (grd1 rfl rfl rfl hgc1) ⟨und0 rfl, trivial⟩ (fun hw1 => g_mv rfl) rfl ?_
  refine ow_gg [(63, _)] (grd1 rfl rfl rfl hgc1) ⟨und1 rfl, trivial⟩ (fun hw2 => g_mv rfl) rfl ?_
  refine ow_grp2 64 true rfl (fun c2 hgc2 => ?_)
  refine ow_gg [(0, _)] (grd2 rfl rfl rfl hgc2) ⟨und0 rfl, trivial⟩ (fun hw3 => g_mv rfl) rfl ?_
  refine ow_gdk [(65, _)] (grd2 rfl rfl rfl hgc2) ⟨und1 rfl, trivial⟩ (fun hw4 => d_call (vs := [_]) rfl (maxv_any _ (fpB (rootF (fp (leI (fpB (((fp (leI (decLow xs))) * (fp (leI (decLow xs)))) - (fp 1))))) (fp (leI (fpB (((d) * ((fp (leI (decLow xs))) * (fp (leI (decLow xs))))) + (fp 1))))))) _ o5.rd (by rw [fpB_length]; decide))) rfl ?_
  rintro w24 k24
  replace hb1 := hb1.keep0 k24
  replace ow2 := ow2.keep0 k24
  replace hb3 := hb3.keep0 k24
  replace o2 := o2.keep0 k24
  replace o3 := o3.keep0 k24
  replace o4 := o4.keep0 k24
  replace o5 := o5.keep0 k24
  replace hB := hB.trans k24
  refine ow_gg [(66, _)] (grd2 rfl rfl rfl hgc2) ⟨und1 rfl, trivial⟩ (fun hw5 => g_eq rfl rfl) rfl ?_
  refine ow_pand (grd1 rfl rfl rfl hgc1) (und1 rfl) rfl hgc2 rfl ?_
  refine ow_g (g_por rfl rfl hgc1) rfl ?_
  refine ow_nil (tw_keep [(2, _), (4, _), (6, _), (0, _), (69, _)] ⟨rfl, rfl, rfl, rfl, rfl, trivial⟩ ?_)
  refine tw_cond rfl (fun hc2 => ?_) (fun hc2 => ?_)
  ·
   have hd1 := hc2
   try (simp only [Bool.and_eq_true, Bool.or_eq_true, decide_eq_true_eq, Bool.and_eq_false_iff, Bool.or_eq_false_iff, decide_eq_false_iff_not, Bool.not_eq_true', Bool.not_eq_false', Bool.not_eq_true, Bool.not_eq_false, ne_eq, Decidable.not_not, decide_true, decide_false, Bool.true_and, Bool.false_and, Bool.or_false, Bool.false_or, not_true_eq_false, false_or, or_false, true_and, and_true, not_false_eq_true, reduceCtorEq] at hd1)
   refine tw_seq (tw_region (ow_g (g_bld (idx := []) (xs := []) (vs := []) (css := []) (out := [_, _, _, _, _, _, _, _, _, _, _, _, _, _, _, _, _, _, _, _]) pl30 ty30 rfl rfl trivial rfl rfl) rfl ?_))
   refine ow_d0 (d_sta ty30 rfl rfl rfl (by simp only [List.forall_mem_cons]; refine ⟨rfl, rfl, rfl, rfl, rfl, rfl, rfl, rfl, rfl, rfl, rfl, rfl, rfl, rfl, rfl, rfl, rfl, rfl, rfl, rfl, fun v hv => by cases hv⟩) hb1 rfl) ?_
   rintro _ w25 ⟨hb9, k25, z10⟩
   replace ow2 := ow2.keep k25 (fun x hx hm => sb_b1_o1 x hx (List.mem_singleton.1 hm))
   replace hb3 := hb3.keep k25 (fun hm => absurd (List.mem_singleton.1 hm) (Ne.symm ne_b1_b2))
   replace o2 := o2.keep k25 (fun x hx hm => sb_b1_o2 x hx (List.mem_singleton.1 hm))
   replace o3 := o3.keep k25 (fun x hx hm => sb_b1_o3 x hx (List.mem_singleton.1 hm))
   replace o4 := o4.keep k25 (fun x hx hm => sb_b1_o4 x hx (List.mem_singleton.1 hm))
   replace o5 := o5.keep k25 (fun x hx hm => sb_b1_o5 x hx (List.mem_singleton.1 hm))
   replace hB := hB.new k25 (fun x hx => .inl ((List.mem_singleton.1 hx) ▸ ge_b1))
   clear z10
   replace hb9 : Bk w25 b1 _ [.int .u64 0, .int .u64 0, .int .u64 0, .int .u64 0, .int .u64 0, .int .u64 0, .int .u64 0, .int .u64 0, .int .u64 0, .int .u64 0, .int .u64 0, .int .u64 0, .int .u64 0, .int .u64 0, .int .u64 0, .int .u64 0, .int .u64 0, .int .u64 0, .int .u64 0, .int .u64 0] := hb9
   refine ow_g (g_as rfl) rfl (ow_nil (tw_retct hfin Try.results9 rfl (run_loadAgg ag30 ty30 ‹_› rfl) rfl ?_))
   have he := dec_e2 (z := 0) hx hc1 (dec_b h1 rfl rfl hc2)
   exact ⟨fun _ => 0, by rw [he]; rfl, fun h => by rw [he] at h; exact absurd h (by decide), fun _ => rfl, hB⟩
  ·
   have hd2 := hc2
   try (simp only [Bool.and_eq_true, Bool.or_eq_true, decide_eq_true_eq, Bool.and_eq_false_iff, Bool.or_eq_false_iff, decide_eq_false_iff_not, Bool.not_eq_true', Bool.not_eq_false', Bool.not_eq_true, Bool.not_eq_false, ne_eq, Decidable.not_not, decide_true, decide_false, Bool.true_and, Bool.false_and, Bool.or_false, Bool.false_or, not_true_eq_false, false_or, or_false, true_and, and_true, not_false_eq_true, reduceCtorEq] at hd2)
   refine tw_skip (tw_seq (tw_region (ow_g (g_mv rfl) rfl (ow_d (d_call (vs := [_]) rfl (from_any _ (fpB (rootF (fp (leI (fpB (((fp (leI (decLow xs))) * (fp (leI (decLow xs)))) - (fp 1))))) (fp (leI (fpB (((d) * ((fp (leI (decLow xs))) * (fp (leI (decLow xs))))) + (fp 1))))))) _ o5.rd (fpB_length _))) rfl ?_))))
   rintro _ w26 ⟨hh8, rfl, E8, k26⟩
   replace hb1 := hb1.keep0 k26
   replace ow2 := ow2.keep0 k26
   replace hb3 := hb3.keep0 k26
   replace o2 := o2.keep0 k26
   replace o3 := o3.keep0 k26
   replace o4 := o4.keep0 k26
   replace o5 := o5.keep0 k26
   replace hB := hB.trans k26
   refine ow_g (g_mv rfl) rfl (ow_g (g_ext (vs := [_, _]) rfl rfl) rfl ?_)
   refine ow_g (g_ext (vs := [_, _]) rfl rfl) rfl ?_
   refine ow_d (d_alloc ty28) rfl ?_
   rintro _ w27 ⟨b5, rfl, eb5, hb10, k27, z11⟩
   have ge_b5 : w.heap.size ≤ b5 := by have := hB.size; omega
   have ne_b1_b5 : b1 ≠ b5 := by have := hb1.lt; omega
   have sb_b5_ow2 := fun x hx => (show x ≠ b5 from by have := (ow2.blk x hx).2; omega)
   have ne_b2_b5 : b2 ≠ b5 := by have := hb3.lt; omega
   have sb_b5_o2 := fun x hx => (show x ≠ b5 from by have := (o2.blk x hx).2; omega)
   have sb_b5_o3 := fun x hx => (show x ≠ b5 from by have := (o3.blk x hx).2; omega)
   have sb_b5_o4 := fun x hx => (show x ≠ b5 from by have := (o4.blk x hx).2; omega)
   have sb_b5_o5 := fun x hx => (show x ≠ b5 from by have := (o5.blk x hx).2; omega)
   replace hb1 := hb1.keep0 k27
   replace ow2 := ow2.keep0 k27
   replace hb3 := hb3.keep0 k27
   replace o2 := o2.keep0 k27
   replace o3 := o3.keep0 k27
   replace o4 := o4.keep0 k27
   replace o5 := o5.keep0 k27
   replace hB := hB.trans k27
   clear eb5 z11
   refine ow_d0 (d_sta ty28 rfl rfl rfl ivF_one hb10 rfl) ?_
   rintro _ w28 ⟨hb11, k28, z12⟩
   replace hb1 := hb1.keep k28 (fun hm => absurd (List.mem_singleton.1 hm) ne_b1_b5)
   replace ow2 := ow2.keep k28 (fun x hx hm => sb_b5_ow2 x hx (List.mem_singleton.1 hm))
   replace hb3 := hb3.keep k28 (fun hm => absurd (List.mem_singleton.1 hm) ne_b2_b5)
   replace o2 := o2.keep k28 (fun x hx hm => sb_b5_o2 x hx (List.mem_singleton.1 hm))
   replace o3 := o3.keep k28 (fun x hx hm => sb_b5_o3 x hx (List.mem_singleton.1 hm))
   replace o4 := o4.keep k28 (fun x hx hm => sb_b5_o4 x hx (List.mem_singleton.1 hm))
   replace o5 := o5.keep k28 (fun x hx hm => sb_b5_o5 x hx (List.mem_singleton.1 hm))
   replace hB := hB.new k28 (fun x hx => .inl ((List.mem_singleton.1 hx) ▸ ge_b5))
   clear z12
   replace hb11 : Bk w28 b5 _ [.int .u64 (hh8 0), .int .u64 (hh8 1), .int .u64 (hh8 2), .int .u64 (hh8 3), .int .u64 (hh8 4)] := hb11
   refine ow_g (g_as rfl) rfl (ow_nil (tw_seq (tw_seq (tw_region (ow_g (g_mv rfl) rfl (ow_nil ?_))))))
   refine tw_if rfl (fun hc3 => ?_) (fun hc3 => ?_)
   ·
    refine tw_region (ow_g (g_bld (idx := []) (xs := []) (vs := []) (css := []) (out := [_, _, _, _, _]) pl28 ty28 rfl rfl trivial rfl rfl) rfl ?_)
    refine ow_g (g_ldab (cs' := [_, _, _, _, _]) ag28 ty28 rfl hb11 rfl rfl) rfl ?_
    refine ow_d (d_call (vs := [_, _]) rfl (nminus_any _ _ _ _ el_zero E8 _)) rfl ?_
    rintro _ w29 ⟨hh9, rfl, E9, k29⟩
    replace hb1 := hb1.keep0 k29
    replace ow2 := ow2.keep0 k29
    replace hb3 := hb3.keep0 k29
    replace o2 := o2.keep0 k29
    replace o3 := o3.keep0 k29
    replace o4 := o4.keep0 k29
    replace o5 := o5.keep0 k29
    replace hb11 := hb11.keep0 k29
    replace hB := hB.trans k29
    refine ow_d0 (d_sta ty28 rfl rfl rfl ivF_one hb11 rfl) ?_
    rintro _ w30 ⟨hb12, k30, z13⟩
    replace hb1 := hb1.keep k30 (fun hm => absurd (List.mem_singleton.1 hm) ne_b1_b5)
    replace ow2 := ow2.keep k30 (fun x hx hm => sb_b5_ow2 x hx (List.mem_singleton.1 hm))
    replace hb3 := hb3.keep k30 (fun hm => absurd (List.mem_singleton.1 hm) ne_b2_b5)
    replace o2 := o2.keep k30 (fun x hx hm => sb_b5_o2 x hx (List.mem_singleton.1 hm))
    replace o3 := o3.keep k30 (fun x hx hm => sb_b5_o3 x hx (List.mem_singleton.1 hm))
    replace o4 := o4.keep k30 (fun x hx hm => sb_b5_o4 x hx (List.mem_singleton.1 hm))
    replace o5 := o5.keep k30 (fun x hx hm => sb_b5_o5 x hx (List.mem_singleton.1 hm))
    replace hB := hB.new k30 (fun x hx => .inl ((List.mem_singleton.1 hx) ▸ ge_b5))
    clear z13
    replace hb12 : Bk w30 b5 _ [.int .u64 (hh9 0), .int .u64 (hh9 1), .int .u64 (hh9 2), .int .u64 (hh9 3), .int .u64 (hh9 4)] := hb12
    refine ow_nil (tw_keep [(2, _), (6, _), (12, _)] ⟨rfl, rfl, rfl, trivial⟩ ?_)
    refine tw_seq (tw_region (ow_g (g_ldab (cs' := [_, _, _, _, _]) ag28 ty28 rfl hb12 rfl rfl) rfl ?_))
    refine ow_g (g_ldab (cs' := [_, _, _, _, _]) ag28 ty28 rfl hb3 rfl rfl) rfl ?_
    refine ow_d (d_call (vs := [_, _]) rfl (affine_any _ _ _ _ E9 E1 _)) rfl ?_
    rintro _ w31 ⟨hh10, rfl, E10, k31⟩
    replace hb1 := hb1.keep0 k31
    replace ow2 := ow2.keep0 k31
    replace hb3 := hb3.keep0 k31
    replace o2 := o2.keep0 k31
    replace o3 := o3.keep0 k31
    replace o4 := o4.keep0 k31
    replace o5 := o5.keep0 k31
    replace hb12 := hb12.keep0 k31
    replace hB := hB.trans k31
    refine ow_d0 (d_sta ty30 rfl rfl rfl ivF_one hb1 rfl) ?_
    rintro _ w32 ⟨hb13, k32, z14⟩
    replace ow2 := ow2.keep k32 (fun x hx hm => sb_b1_o1 x hx (List.mem_singleton.1 hm))
    replace hb3 := hb3.keep k32 (fun hm => absurd (List.mem_singleton.1 hm) (Ne.symm ne_b1_b2))
    replace o2 := o2.keep k32 (fun x hx hm => sb_b1_o2 x hx (List.mem_singleton.1 hm))
    replace o3 := o3.keep k32 (fun x hx hm => sb_b1_o3 x hx (List.mem_singleton.1 hm))
    replace o4 := o4.keep k32 (fun x hx hm => sb_b1_o4 x hx (List.mem_singleton.1 hm))
    replace o5 := o5.keep k32 (fun x hx hm => sb_b1_o5 x hx (List.mem_singleton.1 hm))
    replace hb12 := hb12.keep k32 (fun hm => absurd (List.mem_singleton.1 hm) (Ne.symm ne_b1_b5))
    replace hB := hB.new k32 (fun x hx => .inl ((List.mem_singleton.1 hx) ▸ ge_b1))
    clear z14
    replace hb13 : Bk w32 b1 _ [.int .u64 (hh10 0), .int .u64 (hh10 1), .int .u64 (hh10 2), .int .u64 (hh10 3), .int .u64 (hh10 4), .int .u64 (hh10 5), .int .u64 (hh10 6), .int .u64 (hh10 7), .int .u64 (hh10 8), .int .u64 (hh10 9), .int .u64 (hh10 10), .int .u64 (hh10 11), .int .u64 (hh10 12), .int .u64 (hh10 13), .int .u64 (hh10 14), .int .u64 (hh10 15), .int .u64 (hh10 16), .int .u64 (hh10 17), .int .u64 (hh10 18), .int .u64 (hh10 19)] := hb13
    refine ow_g (g_as rfl) rfl (ow_nil (tw_retct hfin Try.results9 rfl (run_loadAgg ag30 ty30 ‹_› rfl) rfl ?_))
    have he := dec_e0 (z := 0) hx hc1 (dec_b h1 rfl rfl hc2)
    exact ⟨hh10, by rw [he]; rfl, fun _ => (by rw [dec_xT h1 rfl rfl hc3]; exact E10), fun h => absurd he h, hB⟩
   ·
    refine tw_skip (tw_seq (tw_region (ow_g (g_ldab (cs' := [_, _, _, _, _]) ag28 ty28 rfl hb11 rfl rfl) rfl ?_)))
    refine ow_g (g_ldab (cs' := [_, _, _, _, _]) ag28 ty28 rfl hb3 rfl rfl) rfl ?_
    refine ow_d (d_call (vs := [_, _]) rfl (affine_any _ _ _ _ E8 E1 _)) rfl ?_
    rintro _ w33 ⟨hh11, rfl, E11, k33⟩
    replace hb1 := hb1.keep0 k33
    replace ow2 := ow2.keep0 k33
    replace hb3 := hb3.keep0 k33
    replace o2 := o2.keep0 k33
    replace o3 := o3.keep0 k33
    replace o4 := o4.keep0 k33
    replace o5 := o5.keep0 k33
    replace hb11 := hb11.keep0 k33
    replace hB := hB.trans k33
    refine ow_d0 (d_sta ty30 rfl rfl rfl ivF_one hb1 rfl) ?_
    rintro _ w34 ⟨hb14, k34, z15⟩
    replace ow2 := ow2.keep k34 (fun x hx hm => sb_b1_o1 x hx (List.mem_singleton.1 hm))
    replace hb3 := hb3.keep k34 (fun hm => absurd (List.mem_singleton.1 hm) (Ne.symm ne_b1_b2))
    replace o2 := o2.keep k34 (fun x hx hm => sb_b1_o2 x hx (List.mem_singleton.1 hm))
    replace o3 := o3.keep k34 (fun x hx hm => sb_b1_o3 x hx (List.mem_singleton.1 hm))
    replace o4 := o4.keep k34 (fun x hx hm => sb_b1_o4 x hx (List.mem_singleton.1 hm))
    replace o5 := o5.keep k34 (fun x hx hm => sb_b1_o5 x hx (List.mem_singleton.1 hm))
    replace hb11 := hb11.keep k34 (fun hm => absurd (List.mem_singleton.1 hm) (Ne.symm ne_b1_b5))
    replace hB := hB.new k34 (fun x hx => .inl ((List.mem_singleton.1 hx) ▸ ge_b1))
    clear z15
    replace hb14 : Bk w34 b1 _ [.int .u64 (hh11 0), .int .u64 (hh11 1), .int .u64 (hh11 2), .int .u64 (hh11 3), .int .u64 (hh11 4), .int .u64 (hh11 5), .int .u64 (hh11 6), .int .u64 (hh11 7), .int .u64 (hh11 8), .int .u64 (hh11 9), .int .u64 (hh11 10), .int .u64 (hh11 11), .int .u64 (hh11 12), .int .u64 (hh11 13), .int .u64 (hh11 14), .int .u64 (hh11 15), .int .u64 (hh11 16), .int .u64 (hh11 17), .int .u64 (hh11 18), .int .u64 (hh11 19)] := hb14
    refine ow_g (g_as rfl) rfl (ow_nil (tw_keep [(2, _), (3, _)] ⟨rfl, rfl, trivial⟩ ?_))
    refine tw_retct hfin Try.results9 rfl (run_loadAgg ag30 ty30 ‹_› rfl) rfl ?_
    have he := dec_e0 (z := 0) hx hc1 (dec_b h1 rfl rfl hc2)
    exact ⟨hh11, by rw [he]; rfl, fun _ => (by rw [dec_xF h1 rfl rfl hc3]; exact E11), fun h => absurd he h, hB⟩
end Go.Proofs.Ytkngeapegpehpaa.W
namespace Go.Proofs.Ytkngeapegpehpaa.W
open Go Go.Eng Go.Byt
set_option linter.unusedVariables false
set_option linter.unusedSimpArgs false
open Go.Fld Go.Ed
set_option maxRecDepth 100000 in
set_option maxHeartbeats 1000000 in
theorem Pdecode_no (v : Value) (xs : List UInt8) (w : World) (hv : RdB w v xs) (hx : xs.length ≠ 32) : Rets Try.prog 9 [v] w (fun v w' => v = .tuple #[.agg (iv .u64 20 (fun _ => 0)).toArray, .int .i64 1] ∧ Keep [] w w') := by
 have hB : Keep [] w w := Keep.refl _ _
 refine rets_of_tw Try.func9 rfl (by decide) Try.ntmps9 rfl (fun fin _ hfin => ?_)
 refine tw_seq (tw_region (ow_d (d_alloc ty30) rfl ?_))
 rintro _ w1 ⟨b1, rfl, eb1, hb1, k1, z1⟩
 have ge_b1 : w.heap.size ≤ b1 := by have := hB.size; omega
 replace hB := hB.trans k1
 clear eb1 z1
 refine ow_g (g_as rfl) rfl (ow_nil (tw_seq (tw_seq (tw_region (ow_g (g_mv rfl) rfl (ow_g (g_len Try.underlying22 rfl (by first | assumption | exact Own.rd ‹_› | exact Rd.keep0 ‹_› hB | exact Own.rd (Own.keep0 ‹_› hB))) rfl ?_))))))
 refine ow_g (g_ne rfl rfl) rfl ?_
 refine ow_nil (tw_ifT rfl (by omega) ?_)
 refine tw_seq (tw_region (ow_g (g_bld (idx := []) (xs := []) (vs := []) (css := []) (out := [_, _, _, _, _, _, _, _, _, _, _, _, _, _, _, _, _, _, _, _]) pl30 ty30 rfl rfl trivial rfl rfl) rfl ?_))
 refine ow_d0 (d_sta ty30 rfl rfl rfl (by simp only [List.forall_mem_cons]; refine ⟨rfl, rfl, rfl, rfl, rfl, rfl, rfl, rfl, rfl, rfl, rfl, rfl, rfl, rfl, rfl, rfl, rfl, rfl, rfl, rfl, fun v hv => by cases hv⟩) hb1 rfl) ?_
 rintro _ w2 ⟨hb2, k2, z2⟩
 replace hB := hB.new k2 (fun x hx => .inl ((List.mem_singleton.1 hx) ▸ ge_b1))
 clear z2
 replace hb2 : Bk w2 b1 _ [.int .u64 0, .int .u64 0, .int .u64 0, .int .u64 0, .int .u64 0, .int .u64 0, .int .u64 0, .int .u64 0, .int .u64 0, .int .u64 0, .int .u64 0, .int .u64 0, .int .u64 0, .int .u64 0, .int .u64 0, .int .u64 0, .int .u64 0, .int .u64 0, .int .u64 0, .int .u64 0] := hb2
 refine ow_g (g_as rfl) rfl (ow_nil (tw_retct hfin Try.results9 rfl (run_loadAgg ag30 ty30 ‹_› rfl) rfl ?_))
 exact ⟨rfl, hB⟩
def baseB : List UInt8 := [88, 102, 102, 102, 102, 102, 102, 102, 102, 102, 102, 102, 102, 102, 102, 102, 102, 102, 102, 102, 102, 102, 102, 102, 102, 102, 102, 102, 102, 102, 102, 102]
def basePt : Pt := (⟨15112221349535400772501151409588531511454012693041857206046113283949847762202, by decide⟩, ⟨46316835694926478169428394003475163141307993866256225615783033603165251855960, by decide⟩)
theorem base_on : OnP basePt := by unfold OnP On; decide +kernel
theorem base_low : decLow baseB = baseB := by decide +kernel
theorem base_y : decY baseB = basePt.2 := by unfold decY; rw [base_low]; decide +kernel
theorem baseB_set : (bv (repN 102 32)).set 0 (.int .u8 88) = bv baseB := by
  rw [bv_setB (by decide)]; congr 1
def bU : Fp := (⟨37053468555941182535542715202780130513046395093004980492626426882532201484767, by decide⟩ : Fp)
def bV : Fp := (⟨35320460721920060721965471946471712506633951349663716574434581141966314745466, by decide⟩ : Fp)
def bI : Fp := (⟨36615873626505047815401509688526422966742341385236691817538452001808239043262, by decide⟩ : Fp)
def bQ : Fp := (⟨26187595835145689230469591415084376402084551887632582719101735842039498021991, by decide⟩ : Fp)
def bR : Fp := (⟨42783823269122696939284341094755422415180979639778424813682678720006717057747, by decide⟩ : Fp)
def bS : Fp := (⟨42783823269122696939284341094755422415180979639778424813682678720006717057747, by decide⟩ : Fp)
theorem base_U : decU basePt.2 = bU := by decide +kernel
theorem base_V : decV basePt.2 = bV := by decide +kernel
theorem base_Q : bU * inv bV = bQ := by rw [inv_unique (show bV * bI = 1 by decide +kernel)]; decide +kernel
theorem base_r0 : root0 bQ = bR := Fin.ext (by unfold root0; rw [fpow_pw _ _ (by decide)]; decide +kernel)
theorem base_r1 : root1 bQ = bS := by
  unfold root1
  rw [base_r0]
  rw [if_pos (by decide +kernel)]; decide +kernel
theorem base_ok : rootOk bU bV = true := by unfold rootOk; rw [base_Q, base_r1]; decide +kernel
theorem base_F : rootF bU bV = basePt.1 := by unfold rootF; rw [base_ok, base_Q, base_r1]; decide +kernel
theorem base_E : decE baseB = 0 := by
  have hl : ¬ baseB.length ≠ 32 := by decide
  have ho : decOdd baseB = false := by decide +kernel
  unfold decE
  rw [if_neg hl, base_y, base_low, if_neg (by decide +kernel), base_U, base_V, base_ok, ho]; rfl
theorem base_X : decX baseB = basePt.1 := by
  have ho : decOdd baseB = false := by decide +kernel
  unfold decX
  rw [ho, base_y, base_U, base_V, base_F]; rfl
theorem Pdecode_base (v : Value) (w : World) (hv : RdB w v baseB) : Rets Try.prog 9 [v] w (fun v w' => ∃ p, v = .tuple #[.agg (iv .u64 20 p).toArray, .int .i64 0] ∧ PtR p basePt ∧ Keep [] w w') :=
  (Pdecode_32 v baseB w hv (by decide)).mono fun r w' ⟨p, e, h, _, k⟩ => ⟨p, by rw [e, base_E], by have := h base_E; rw [base_X, base_y] at this; exact ptr_affine this, k⟩
set_option maxRecDepth 100000 in
set_option maxHeartbeats 1000000 in
theorem Pbase_any (w : World) : Rets Try.prog 18 [] w (fun v w' => ∃ p, v = .agg (iv .u64 20 p).toArray ∧ PtR p basePt ∧ Keep [] w w') := by
 have hB : Keep [] w w := Keep.refl _ _
 refine rets_of_tw Try.func18 rfl (by decide) Try.ntmps18 rfl (fun fin _ hfin => ?_)
 refine tw_seq (tw_region (ow_d (d_alloc ty30) rfl ?_))
 rintro _ w1 ⟨b1, rfl, eb1, hb1, k1, z1⟩
 have ge_b1 : w.heap.size ≤ b1 := by have := hB.size; omega
 replace hB := hB.trans k1
 clear eb1 z1
 refine ow_nil (tw_seq (tw_region (ow_d (d_bs (m := 1) (xs := [.const (.int .u8 (102))]) (vs := [_]) Try.underlying22 ty5 (by decide) rfl rfl rfl (by first | (simp; done) | (intro v hv; rw [List.mem_singleton] at hv; subst hv; rfl)) (by decide)) rfl ?_)))
 rintro v1 w2 ⟨o1, nn1, lb1, k2, z2⟩
 have gl_o1 := hB.size
 have sb_b1_o1 := fun x hx => (show x ≠ b1 from by have h1 := (o1.blk x hx).1; have h2 := hb1.lt; omega)
 replace hb1 := hb1.keep0 k2
 replace hB := hB.trans k2
 have u_o1 := o1.blk
 replace o1 : Own w2 _ _ 1 v1 1 (bv [102]) := o1
 refine ow_d (d_call (vs := [_, _]) rfl (repeat_any _ 102 _ (o1).rd)) rfl ?_
 rintro v2 w3 ⟨o2, k3⟩
 have gl_o2 := hB.size
 have sb_b1_o2 := fun x hx => (show x ≠ b1 from by have h1 := (o2.blk x hx).1; have h2 := hb1.lt; omega)
 replace hb1 := hb1.keep0 k3
 replace o1 := o1.keep0 k3
 replace hB := hB.trans k3
 have u_o2 := o2.blk
 refine ow_g (g_as rfl) rfl (ow_nil (tw_seq (tw_region (ow_g (g_mv rfl) rfl (ow_g (g_ix Try.underlying22 ty5 rfl (by first | assumption | exact Own.rd ‹_› | exact Rd.keep0 ‹_› hB | exact Own.rd (Own.keep0 ‹_› hB)) rfl (by omega)) rfl ?_)))))
 refine ow_d0 (d_sto (u := .int .u8 88) ty5 rfl rfl rfl o2 (by decide)) ?_
 rintro _ w99 ⟨ow2, k99, z99⟩
 replace hB := hB.new k99 (fun x hx => .inl (Nat.le_trans gl_o2 (o2.blk x hx).1))
 replace ow2 : OwnB w99 w.heap.size v2 baseB := by have e := ow2.lo gl_o2; rw [show (0 : Int).toNat * 1 = 0 from rfl, baseB_set] at e; exact e
 replace hb1 := hb1.keep k99 (fun hm => sb_b1_o2 _ hm rfl)
 refine ow_nil (tw_seq (tw_region (ow_g (g_mv rfl) rfl (ow_d (d_call (vs := [_]) rfl (Pdecode_base _ _ ow2.rd)) rfl ?_))))
 rintro _ w4 ⟨hh1, rfl, E1, k4⟩
 replace hb1 := hb1.keep0 k4
 replace ow2 := ow2.keep0 k4
 replace hB := hB.trans k4
 refine ow_g (g_mv rfl) rfl (ow_g (g_ext (vs := [_, _]) rfl rfl) rfl ?_)
 refine ow_g (g_ext (vs := [_, _]) rfl rfl) rfl ?_
 refine ow_d (d_alloc ty30) rfl ?_
 rintro _ w5 ⟨b2, rfl, eb2, hb2, k5, z3⟩
 have ge_b2 : w.heap.size ≤ b2 := by have := hB.size; omega
 have ne_b1_b2 : b1 ≠ b2 := by have := hb1.lt; omega
 have sb_b2_ow2 := fun x hx => (show x ≠ b2 from by have := (ow2.blk x hx).2; omega)
 replace hb1 := hb1.keep0 k5
 replace ow2 := ow2.keep0 k5
 replace hB := hB.trans k5
 clear eb2 z3
 refine ow_d0 (d_sta ty30 rfl rfl rfl ivF_one hb2 rfl) ?_
 rintro _ w6 ⟨hb3, k6, z4⟩
 replace hb1 := hb1.keep k6 (fun hm => absurd (List.mem_singleton.1 hm) ne_b1_b2)
 replace ow2 := ow2.keep k6 (fun x hx hm => sb_b2_ow2 x hx (List.mem_singleton.1 hm))
 replace hB := hB.new k6 (fun x hx => .inl ((List.mem_singleton.1 hx) ▸ ge_b2))
 clear z4
 replace hb3 : Bk w6 b2 _ [.int .u64 (hh1 0), .int .u64 (hh1 1), .int .u64 (hh1 2), .int .u64 (hh1 3), .int .u64 (hh1 4), .int .u64 (hh1 5), .int .u64 (hh1 6), .int .u64 (hh1 7), .int .u64 (hh1 8), .int .u64 (hh1 9), .int .u64 (hh1 10), .int .u64 (hh1 11), .int .u64 (hh1 12), .int .u64 (hh1 13), .int .u64 (hh1 14), .int .u64 (hh1 15), .int .u64 (hh1 16), .int .u64 (hh1 17), .int .u64 (hh1 18), .int .u64 (hh1 19)] := hb3
 refine ow_g (g_as rfl) rfl (ow_nil (tw_keep [(0, _), (2, _)] ⟨rfl, rfl, trivial⟩ ?_))
 refine tw_seq (tw_region (ow_g (g_ldab (cs' := [_, _, _, _, _, _, _, _, _, _, _, _, _, _, _, _, _, _, _, _]) ag30 ty30 rfl hb3 rfl rfl) rfl ?_))
 refine ow_d0 (d_sta ty30 rfl rfl rfl (by simp only [List.forall_mem_cons]; refine ⟨rfl, rfl, rfl, rfl, rfl, rfl, rfl, rfl, rfl, rfl, rfl, rfl, rfl, rfl, rfl, rfl, rfl, rfl, rfl, rfl, fun v hv => by cases hv⟩) hb1 rfl) ?_
 rintro _ w7 ⟨hb4, k7, z5⟩
 replace ow2 := ow2.keep k7 (fun x hx hm => sb_b1_o2 x hx (List.mem_singleton.1 hm))
 replace hb3 := hb3.keep k7 (fun hm => absurd (List.mem_singleton.1 hm) (Ne.symm ne_b1_b2))
 replace hB := hB.new k7 (fun x hx => .inl ((List.mem_singleton.1 hx) ▸ ge_b1))
 clear z5
 replace hb4 : Bk w7 b1 _ [.int .u64 (hh1 0), .int .u64 (hh1 1), .int .u64 (hh1 2), .int .u64 (hh1 3), .int .u64 (hh1 4), .int .u64 (hh1 5), .int .u64 (hh1 6), .int .u64 (hh1 7), .int .u64 (hh1 8), .int .u64 (hh1 9), .int .u64 (hh1 10), .int .u64 (hh1 11), .int .u64 (hh1 12), .int .u64 (hh1 13), .int .u64 (hh1 14), .int .u64 (hh1 15), .int .u64 (hh1 16), .int .u64 (hh1 17), .int .u64 (hh1 18), .int .u64 (hh1 19)] := hb4
 refine ow_nil (tw_retc hfin Try.results18 rfl (run_loadAgg ag30 ty30 ‹_› rfl)  ?_)
 exact ⟨hh1, rfl, E1, hB⟩
end Go.Proofs.Ytkngeapegpehpaa.W
namespace Go.Proofs.Ytkngeapegpehpaa.W
open Go Go.Eng Go.Byt
set_option linter.unusedVariables false
set_option linter.unusedSimpArgs false
open Go.Fld Go.Ed
attribute [local irreducible] encB
theorem fullR {p : Nat → Int} {a : Pt} (hp : PtR p a) (w : World) : Rets Try.prog 54 [.agg (iv .u64 20 p).toArray] w (fun v w' => ∃ r, v = .agg (iv .u64 20 r).toArray ∧ PtR r a ∧ Keep [] w w') := by
  obtain ⟨Z, hz, h⟩ := hp
  exact (full_any p _ _ _ _ h hz w).mono fun v w' ⟨r, e, h', k⟩ => ⟨r, e, ⟨Z, hz, h'⟩, k⟩
theorem plusR {p q f : Nat → Int} {a b : Pt} (hp : PtR p a) (hq : PtR q b) (oa : OnP a) (ob : OnP b) (hf : El f d) (w : World) : Rets Try.prog 58 [.agg (iv .u64 20 p).toArray, .agg (iv .u64 20 q).toArray, .agg (iv .u64 5 f).toArray] w (fun v w' => ∃ r, v = .agg (iv .u64 20 r).toArray ∧ PtR r (padd a b) ∧ Keep [] w w') := by
  obtain ⟨Z1, h1, hp⟩ := hp
  obtain ⟨Z2, h2, hq⟩ := hq
  exact (pplus_any p q f _ _ _ _ _ _ _ _ _ hp hq hf w).mono fun v w' ⟨r, e, h', k⟩ => ⟨r, e, ptr_plus oa ob h1 h2 h', k⟩
theorem doubleR {p : Nat → Int} {a : Pt} (hp : PtR p a) (oa : OnP a) (w : World) : Rets Try.prog 59 [.agg (iv .u64 20 p).toArray] w (fun v w' => ∃ r, v = .agg (iv .u64 20 r).toArray ∧ PtR r (padd a a) ∧ Keep [] w w') := by
  obtain ⟨Z, hz, hp⟩ := hp
  exact (pdouble_any p _ _ _ _ hp w).mono fun v w' ⟨r, e, h', k⟩ => ⟨r, e, ptr_double oa hz h', k⟩
theorem PplusR {p q : Nat → Int} {a b : Pt} (hp : PtR p a) (hq : PtR q b) (oa : OnP a) (ob : OnP b) (w : World) : Rets Try.prog 23 [.agg (iv .u64 20 p).toArray, .agg (iv .u64 20 q).toArray] w (fun v w' => ∃ r, v = .agg (iv .u64 20 r).toArray ∧ PtR r (padd a b) ∧ Keep [] w w') := by
  obtain ⟨Z1, h1, hp⟩ := hp
  obtain ⟨Z2, h2, hq⟩ := hq
  exact (Pplus_any p q _ _ _ _ _ _ _ _ hp h1 hq h2 w).mono fun v w' ⟨r, e, h', k⟩ => ⟨r, e, ptr_plus oa ob h1 h2 h', k⟩
theorem PnegR {p : Nat → Int} {a : Pt} (hp : PtR p a) (w : World) : Rets Try.prog 27 [.agg (iv .u64 20 p).toArray] w (fun v w' => ∃ r, v = .agg (iv .u64 20 r).toArray ∧ PtR r (pneg a) ∧ Keep [] w w') := by
  obtain ⟨Z, hz, hp⟩ := hp
  exact (Pneg_any p _ _ _ _ hp hz w).mono fun v w' ⟨r, e, h', k⟩ => ⟨r, e, ptr_neg hz h', k⟩
theorem PzeroR (w : World) : Rets Try.prog 15 [] w (fun v w' => ∃ r, v = .agg (iv .u64 20 r).toArray ∧ PtR r zero ∧ Keep [] w w') :=
  (Pzero_any w).mono fun v w' ⟨r, e, h', k⟩ => ⟨r, e, ptr_zero h', k⟩
theorem mul_inv_r {x Z : Fp} (hz : Z ≠ 0) : x * Z * inv Z = x := by
  have := mul_inv hz
  generalize inv Z = i at *
  grind -lia -linarith
theorem PencodeR {p : Nat → Int} {a : Pt} (hp : PtR p a) (w : World) : Rets Try.prog 16 [.agg (iv .u64 20 p).toArray] w (fun v w' => OwnB w' w.heap.size v (encB a.1 a.2) ∧ Keep [] w w') := by
  obtain ⟨Z, hz, hp⟩ := hp
  have h := Pencode_any p _ _ _ _ hp hz w
  rw [mul_inv_r hz, mul_inv_r hz] at h
  exact h
theorem PsameR {p q : Nat → Int} {a b : Pt} (hp : PtR p a) (hq : PtR q b) (w : World) : Rets Try.prog 14 [.agg (iv .u64 20 p).toArray, .agg (iv .u64 20 q).toArray] w (fun v w' => v = .bool (decide (encB a.1 a.2 = encB b.1 b.2)) ∧ Keep [] w w') := by
  obtain ⟨Z1, h1, hp⟩ := hp
  obtain ⟨Z2, h2, hq⟩ := hq
  have h := Psame_any p q _ _ _ _ _ _ _ _ hp h1 hq h2 w
  rw [mul_inv_r h1, mul_inv_r h1, mul_inv_r h2, mul_inv_r h2] at h
  exact h
end Go.Proofs.Ytkngeapegpehpaa.W
namespace Go.Proofs.Ytkngeapegpehpaa.W
open Go Go.Eng Go.Byt
set_option linter.unusedVariables false
set_option linter.unusedSimpArgs false
open Go.Fld Go.Ed
set_option maxRecDepth 100000 in
set_option maxHeartbeats 1000000 in
theorem Ptimes_32 (p : Nat → Int) (a : Pt) (v : Value) (xs : List UInt8) (hp : PtR p a) (ha : OnP a) (w : World) (hv : RdB w v xs) (hx : xs.length = 32) : Rets Try.prog 20 [.agg (iv .u64 20 p).toArray, v] w (fun r w' => ∃ q, r = .tuple #[.agg (iv .u64 20 q).toArray, .int .i64 0] ∧ PtR q (pmul (leI xs).toNat a) ∧ Keep [] w w') := by
 have hB : Keep [] w w := Keep.refl _ _
 refine rets_of_tw Try.func20 rfl (by decide) Try.ntmps20 rfl (fun fin _ hfin => ?_)
 refine tw_seq (tw_region (ow_d (d_box (cs := [.int .u64 (p 0), .int .u64 (p 1), .int .u64 (p 2), .int .u64 (p 3), .int .u64 (p 4), .int .u64 (p 5), .int .u64 (p 6), .int .u64 (p 7), .int .u64 (p 8), .int .u64 (p 9), .int .u64 (p 10), .int .u64 (p 11), .int .u64 (p 12), .int .u64 (p 13), .int .u64 (p 14), .int .u64 (p 15), .int .u64 (p 16), .int .u64 (p 17), .int .u64 (p 18), .int .u64 (p 19)]) rfl rfl) rfl ?_))
 rintro _ w1 ⟨b1, rfl, eb1, hb1, k1, z1⟩
 have ge_b1 : w.heap.size ≤ b1 := by have := hB.size; omega
 replace hB := hB.trans k1
 clear eb1 z1
 refine ow_d (d_alloc ty30) rfl ?_
 rintro _ w2 ⟨b2, rfl, eb2, hb2, k2, z2⟩
 have ge_b2 : w.heap.size ≤ b2 := by have := hB.size; omega
 have ne_b1_b2 : b1 ≠ b2 := by have := hb1.lt; omega
 replace hb1 := hb1.keep0 k2
 replace hB := hB.trans k2
 clear eb2 z2
 refine ow_g (g_as rfl) rfl (ow_nil (tw_scope 64 ?_))
 refine tw_seq (tw_seq (tw_region (ow_g (g_mv rfl) rfl (ow_g (g_len Try.underlying22 rfl (by first | assumption | exact Own.rd ‹_› | exact Rd.keep0 ‹_› hB | exact Own.rd (Own.keep0 ‹_› hB))) rfl ?_))))
 refine ow_g (g_ne rfl rfl) rfl ?_
 refine ow_nil (tw_ifF rfl (by omega) ?_)
 refine tw_skip (tw_seq (tw_region (ow_d (d_call (vs := []) rfl (pd_any _)) rfl ?_)))
 rintro _ w3 ⟨hh1, rfl, E1, k3⟩
 replace hb1 := hb1.keep0 k3
 replace hb2 := hb2.keep0 k3
 replace hB := hB.trans k3
 refine ow_d (d_alloc ty28) rfl ?_
 rintro _ w4 ⟨b3, rfl, eb3, hb3, k4, z3⟩
 have ge_b3 : w.heap.size ≤ b3 := by have := hB.size; omega
 have ne_b1_b3 : b1 ≠ b3 := by have := hb1.lt; omega
 have ne_b2_b3 : b2 ≠ b3 := by have := hb2.lt; omega
 replace hb1 := hb1.keep0 k4
 replace hb2 := hb2.keep0 k4
 replace hB := hB.trans k4
 clear eb3 z3
 refine ow_d0 (d_sta ty28 rfl rfl rfl ivF_one hb3 rfl) ?_
 rintro _ w5 ⟨hb4, k5, z4⟩
 replace hb1 := hb1.keep k5 (fun hm => absurd (List.mem_singleton.1 hm) ne_b1_b3)
 replace hb2 := hb2.keep k5 (fun hm => absurd (List.mem_singleton.1 hm) ne_b2_b3)
 replace hB := hB.new k5 (fun x hx => .inl ((List.mem_singleton.1 hx) ▸ ge_b3))
 clear z4
 replace hb4 : Bk w5 b3 _ [.int .u64 (hh1 0), .int .u64 (hh1 1), .int .u64 (hh1 2), .int .u64 (hh1 3), .int .u64 (hh1 4)] := hb4
 refine ow_nil (tw_seq (tw_region (ow_d (d_alloc ty82) rfl ?_)))
 rintro _ w6 ⟨b4, rfl, eb4, hb5, k6, z5⟩
 have ge_b4 : w.heap.size ≤ b4 := by have := hB.size; omega
 have ne_b1_b4 : b1 ≠ b4 := by have := hb1.lt; omega
 have ne_b2_b4 : b2 ≠ b4 := by have := hb2.lt; omega
 have ne_b3_b4 : b3 ≠ b4 := by have := hb4.lt; omega
 replace hb1 := hb1.keep0 k6
 replace hb2 := hb2.keep0 k6
 replace hb4 := hb4.keep0 k6
 replace hB := hB.trans k6
 clear eb4 z5
 replace hb5 : Bk w6 b4 82 (iv .u64 320 (fun _ => 0)) := by rw [iv, ivF_rep]; exact hb5
 refine ow_nil (tw_seq (tw_region (ow_d (d_call (vs := []) rfl (PzeroR _)) rfl ?_)))
 rintro _ w7 ⟨hh2, rfl, E2, k7⟩
 replace hb1 := hb1.keep0 k7
 replace hb2 := hb2.keep0 k7
 replace hb4 := hb4.keep0 k7
 replace hb5 := hb5.keep0 k7
 replace hB := hB.trans k7
 refine ow_g (g_ixa Try.underlying82 ty30 rfl rfl (by decide)) rfl ?_
 refine ow_d0 (d_stiv (g := hh2) ty30 rfl rfl hb5 (by first | omega | (unfold In at *; omega))) ?_
 rintro _ w8 ⟨hb6, k8, z6⟩
 replace hb1 := hb1.keep k8 (fun hm => absurd (List.mem_singleton.1 hm) ne_b1_b4)
 replace hb2 := hb2.keep k8 (fun hm => absurd (List.mem_singleton.1 hm) ne_b2_b4)
 replace hb4 := hb4.keep k8 (fun hm => absurd (List.mem_singleton.1 hm) ne_b3_b4)
 replace hB := hB.new k8 (fun x hx => .inl ((List.mem_singleton.1 hx) ▸ ge_b4))
 clear z6
 replace hb6 : Bk w8 b4 _ (iv .u64 320 (updR (fun _ => 0) (0 + 0) 20 hh2)) := hb6
 refine ow_nil (tw_seq (tw_seq (tw_region (ow_g (g_as rfl) rfl (ow_nil (tw_block ?_))))))
 refine tw_loop (Γ := Int × (Nat → Int)) (fun ⟨i, U⟩ => [(1, v), (2, .pointer (some ⟨b1, 0, none⟩)), (4, .pointer (some ⟨b2, 0, none⟩)), (6, .pointer (some ⟨b3, 0, none⟩)), (7, .pointer (some ⟨b4, 0, none⟩)), (8, .int .i64 i)]) (fun ⟨i, U⟩ W => 1 ≤ i ∧ i ≤ 16 ∧ (∀ j, j < i.toNat → PtR (atN U (0 + j * 20)) (pmul j a)) ∧ Bk W b1 30 [.int .u64 (p 0), .int .u64 (p 1), .int .u64 (p 2), .int .u64 (p 3), .int .u64 (p 4), .int .u64 (p 5), .int .u64 (p 6), .int .u64 (p 7), .int .u64 (p 8), .int .u64 (p 9), .int .u64 (p 10), .int .u64 (p 11), .int .u64 (p 12), .int .u64 (p 13), .int .u64 (p 14), .int .u64 (p 15), .int .u64 (p 16), .int .u64 (p 17), .int .u64 (p 18), .int .u64 (p 19)] ∧ Bk W b2 30 [.int .u64 0, .int .u64 0, .int .u64 0, .int .u64 0, .int .u64 0, .int .u64 0, .int .u64 0, .int .u64 0, .int .u64 0, .int .u64 0, .int .u64 0, .int .u64 0, .int .u64 0, .int .u64 0, .int .u64 0, .int .u64 0, .int .u64 0, .int .u64 0, .int .u64 0, .int .u64 0] ∧ Bk W b3 28 [.int .u64 (hh1 0), .int .u64 (hh1 1), .int .u64 (hh1 2), .int .u64 (hh1 3), .int .u64 (hh1 4)] ∧ Bk W b4 82 (iv .u64 320 U) ∧ Keep [] w W) (fun ⟨i, U⟩ => (16 - i).toNat) ⟨1, (updR (fun _ => 0) (0 + 0) 20 hh2)⟩ ⟨rfl, rfl, rfl, rfl, rfl, rfl, trivial⟩ (⟨by decide, by decide, win_start E2, hb1, hb2, hb4, hb6, hB⟩) ?_
 rintro ⟨i, U⟩ w9 ⟨hi0, hi1, hwin, hbx2, hbx4, hbx6, hbx7, hB⟩
 refine tw_keep [(1, v), (2, .pointer (some ⟨b1, 0, none⟩)), (4, .pointer (some ⟨b2, 0, none⟩)), (6, .pointer (some ⟨b3, 0, none⟩)), (7, .pointer (some ⟨b4, 0, none⟩)), (8, .int .i64 i)] ⟨rfl, rfl, rfl, rfl, rfl, rfl, trivial⟩ ?_
 refine tw_seq (tw_seq (tw_region (ow_g (g_mv rfl) rfl (ow_g (g_lt rfl rfl) rfl ?_))))
 refine ow_nil (tw_if rfl (fun hc1 => ?_) (fun hc1 => ?_))
 ·
  refine tw_skip (tw_seq (tw_block (tw_plan 9 [0, 1, 2, 3, 4, 5, 7, 6, 8] [6, 8] [] mixed [(8, _), (7, _), (2, _), (6, _), (1, _), (4, _), (18, _), (19, _)] ⟨rfl, rfl, rfl, rfl, rfl, rfl, rfl, rfl, trivial⟩ (by decide +kernel) rfl (fun w10 k9 => ?_))))
  replace hbx2 := hbx2.keep0 k9
  replace hbx4 := hbx4.keep0 k9
  replace hbx6 := hbx6.keep0 k9
  replace hbx7 := hbx7.keep0 k9
  replace hB := hB.trans k9
  refine pw_g [(8, _)] rfl rfl ⟨rfl, trivial⟩ rfl (fun W' kk => g_mv rfl) ?_
  refine pw_g [(8, _)] rfl rfl ⟨rfl, trivial⟩ rfl (fun W' kk => g_mv rfl) ?_
  refine pw_g [(23, _)] rfl rfl ⟨rfl, trivial⟩ rfl (fun W' kk => g_sub rfl rfl (by omega)) ?_
  refine pw_g [(7, _), (24, _)] rfl rfl ⟨rfl, rfl, trivial⟩ rfl (fun W' kk => g_ixa Try.underlying82 ty30 rfl rfl (by constructor <;> omega)) ?_
  refine pw_g [(25, _)] rfl rfl ⟨rfl, trivial⟩ rfl (fun W' kk => g_ldiv ag30 ty30 rfl (Bk.keep0 hbx7 kk) (by first | omega | (unfold In at *; omega))) ?_
  refine pw_g [(2, _)] rfl rfl ⟨rfl, trivial⟩ rfl (fun W' kk => g_ldab (cs' := [_, _, _, _, _, _, _, _, _, _, _, _, _, _, _, _, _, _, _, _]) ag30 ty30 rfl (Bk.keep0 hbx2 kk) rfl rfl) ?_
  refine pw_g [(6, _)] rfl rfl ⟨rfl, trivial⟩ rfl (fun W' kk => g_ldab (cs' := [_, _, _, _, _]) ag28 ty28 rfl (Bk.keep0 hbx6 kk) rfl rfl) ?_
  refine pw_d [(27, _)] rfl rfl ⟨rfl, trivial⟩ rfl (d_call (vs := [_]) rfl (fullR hp _)) ?_
  rintro _ w11 ⟨hh3, rfl, E3, k10⟩
  refine ⟨k10, ?_⟩
  replace hbx2 := hbx2.keep0 k10
  replace hbx4 := hbx4.keep0 k10
  replace hbx6 := hbx6.keep0 k10
  replace hbx7 := hbx7.keep0 k10
  replace hB := hB.trans k10
  refine pw_d [(26, _), (28, _), (29, _)] rfl rfl ⟨rfl, rfl, rfl, trivial⟩ rfl (d_call (vs := [_, _, _]) rfl (plusR (hwin ((i - 1)).toNat (by omega)) E3 (on_mul ha _) ha E1 _)) ?_
  rintro _ w12 ⟨hh4, rfl, E4, k11⟩
  refine ⟨k11, ?_⟩
  replace hbx2 := hbx2.keep0 k11
  replace hbx4 := hbx4.keep0 k11
  replace hbx6 := hbx6.keep0 k11
  replace hbx7 := hbx7.keep0 k11
  replace hB := hB.trans k11
  refine pw_nil ?_
  refine ow_g (g_ixa Try.underlying82 ty30 rfl rfl (by constructor <;> omega)) rfl ?_
  refine ow_d0 (d_stiv (g := hh4) ty30 rfl rfl hbx7 (by first | omega | (unfold In at *; omega))) ?_
  rintro _ w13 ⟨hb7, k12, z7⟩
  replace hbx2 := hbx2.keep k12 (fun hm => absurd (List.mem_singleton.1 hm) ne_b1_b4)
  replace hbx4 := hbx4.keep k12 (fun hm => absurd (List.mem_singleton.1 hm) ne_b2_b4)
  replace hbx6 := hbx6.keep k12 (fun hm => absurd (List.mem_singleton.1 hm) ne_b3_b4)
  replace hB := hB.new k12 (fun x hx => .inl ((List.mem_singleton.1 hx) ▸ ge_b4))
  clear z7
  replace hb7 : Bk w13 b4 _ (iv .u64 320 (updR U (0 + (i).toNat * 20) 20 hh4)) := hb7
  refine ow_nil (tw_b (tw_region (ow_g (g_mv rfl) rfl (ow_g (g_add rfl rfl (by omega)) rfl ?_))))
  refine ow_g (g_as rfl) rfl (ow_nil (tw_inv (Γ := Int × (Nat → Int)) ⟨i + 1, _⟩ ⟨rfl, rfl, rfl, rfl, rfl, rfl, trivial⟩ (by (try dsimp only); omega) (⟨by omega, by omega, win_step hi0 hwin E4, hbx2, hbx4, hbx6, hb7, hB⟩)))
 ·
  refine tw_exit rfl ?_
  refine tw_seq (tw_region (ow_d (d_call (vs := []) rfl (PzeroR _)) rfl ?_))
  rintro _ w14 ⟨hh5, rfl, E5, k13⟩
  replace hbx2 := hbx2.keep0 k13
  replace hbx4 := hbx4.keep0 k13
  replace hbx6 := hbx6.keep0 k13
  replace hbx7 := hbx7.keep0 k13
  replace hB := hB.trans k13
  refine ow_d (d_alloc ty30) rfl ?_
  rintro _ w15 ⟨b5, rfl, eb5, hb8, k14, z8⟩
  have ge_b5 : w.heap.size ≤ b5 := by have := hB.size; omega
  have ne_b1_b5 : b1 ≠ b5 := by have := hbx2.lt; omega
  have ne_b2_b5 : b2 ≠ b5 := by have := hbx4.lt; omega
  have ne_b3_b5 : b3 ≠ b5 := by have := hbx6.lt; omega
  have ne_b4_b5 : b4 ≠ b5 := by have := hbx7.lt; omega
  replace hbx2 := hbx2.keep0 k14
  replace hbx4 := hbx4.keep0 k14
  replace hbx6 := hbx6.keep0 k14
  replace hbx7 := hbx7.keep0 k14
  replace hB := hB.trans k14
  clear eb5 z8
  refine ow_d0 (d_sta ty30 rfl rfl rfl ivF_one hb8 rfl) ?_
  rintro _ w16 ⟨hb9, k15, z9⟩
  replace hbx2 := hbx2.keep k15 (fun hm => absurd (List.mem_singleton.1 hm) ne_b1_b5)
  replace hbx4 := hbx4.keep k15 (fun hm => absurd (List.mem_singleton.1 hm) ne_b2_b5)
  replace hbx6 := hbx6.keep k15 (fun hm => absurd (List.mem_singleton.1 hm) ne_b3_b5)
  replace hbx7 := hbx7.keep k15 (fun hm => absurd (List.mem_singleton.1 hm) ne_b4_b5)
  replace hB := hB.new k15 (fun x hx => .inl ((List.mem_singleton.1 hx) ▸ ge_b5))
  clear z9
  replace hb9 : Bk w16 b5 _ [.int .u64 (hh5 0), .int .u64 (hh5 1), .int .u64 (hh5 2), .int .u64 (hh5 3), .int .u64 (hh5 4), .int .u64 (hh5 5), .int .u64 (hh5 6), .int .u64 (hh5 7), .int .u64 (hh5 8), .int .u64 (hh5 9), .int .u64 (hh5 10), .int .u64 (hh5 11), .int .u64 (hh5 12), .int .u64 (hh5 13), .int .u64 (hh5 14), .int .u64 (hh5 15), .int .u64 (hh5 16), .int .u64 (hh5 17), .int .u64 (hh5 18), .int .u64 (hh5 19)] := hb9
  refine ow_nil (tw_seq (tw_region (ow_g (g_as rfl) rfl (ow_nil (tw_seq (tw_label ?_))))))
  refine tw_again (Γ := Int × (Nat → Int)) (fun ⟨j, o⟩ => [(1, v), (4, .pointer (some ⟨b2, 0, none⟩)), (6, .pointer (some ⟨b3, 0, none⟩)), (7, .pointer (some ⟨b4, 0, none⟩)), (9, .pointer (some ⟨b5, 0, none⟩)), (10, .int .i64 j)]) (fun ⟨j, o⟩ W => 0 ≤ j ∧ j ≤ 63 ∧ PtR o (pmul (topN xs (j + 1) * 16) a) ∧ Bk W b2 30 [.int .u64 0, .int .u64 0, .int .u64 0, .int .u64 0, .int .u64 0, .int .u64 0, .int .u64 0, .int .u64 0, .int .u64 0, .int .u64 0, .int .u64 0, .int .u64 0, .int .u64 0, .int .u64 0, .int .u64 0, .int .u64 0, .int .u64 0, .int .u64 0, .int .u64 0, .int .u64 0] ∧ Bk W b3 28 [.int .u64 (hh1 0), .int .u64 (hh1 1), .int .u64 (hh1 2), .int .u64 (hh1 3), .int .u64 (hh1 4)] ∧ Bk W b4 82 (iv .u64 320 U) ∧ Bk W b5 30 [.int .u64 (o 0), .int .u64 (o 1), .int .u64 (o 2), .int .u64 (o 3), .int .u64 (o 4), .int .u64 (o 5), .int .u64 (o 6), .int .u64 (o 7), .int .u64 (o 8), .int .u64 (o 9), .int .u64 (o 10), .int .u64 (o 11), .int .u64 (o 12), .int .u64 (o 13), .int .u64 (o 14), .int .u64 (o 15), .int .u64 (o 16), .int .u64 (o 17), .int .u64 (o 18), .int .u64 (o 19)] ∧ Keep [] w W) (fun ⟨j, o⟩ => (j + 1).toNat) ⟨63, hh5⟩ ⟨rfl, rfl, rfl, rfl, rfl, rfl, trivial⟩ (⟨by decide, by decide, (by show PtR _ (pmul (topN xs 64 * 16) a); rw [topN_all hx]; exact E5), hbx4, hbx6, hbx7, hb9, hB⟩) (by show (63 + 1 : Int).toNat ≤ 64; decide) (fun γ W h => by have := h.1; show 0 < (γ.1 + 1).toNat; omega) ?_
  rintro mm ⟨j, o⟩ w17 ⟨hj0, hj1, hO, hbx4, hbx6, hbx7, hbx9, hB⟩ hmu again
  refine tw_keep [(1, v), (4, .pointer (some ⟨b2, 0, none⟩)), (6, .pointer (some ⟨b3, 0, none⟩)), (7, .pointer (some ⟨b4, 0, none⟩)), (9, .pointer (some ⟨b5, 0, none⟩)), (10, .int .i64 j)] ⟨rfl, rfl, rfl, rfl, rfl, rfl, trivial⟩ ?_
  refine tw_seq (tw_plan 15 [0, 1, 2, 3, 4, 5, 6, 7, 8, 9, 10, 11, 12, 13, 14] [14] [] mixed [(9, _), (1, _), (10, _), (7, _), (6, _), (4, _)] ⟨rfl, rfl, rfl, rfl, rfl, rfl, trivial⟩ (by decide +kernel) rfl (fun w18 k16 => ?_))
  replace hbx4 := hbx4.keep0 k16
  replace hbx6 := hbx6.keep0 k16
  replace hbx7 := hbx7.keep0 k16
  replace hbx9 := hbx9.keep0 k16
  replace hB := hB.trans k16
  refine pw_g [(9, _)] rfl rfl ⟨rfl, trivial⟩ rfl (fun W' kk => g_ldab (cs' := [_, _, _, _, _, _, _, _, _, _, _, _, _, _, _, _, _, _, _, _]) ag30 ty30 rfl (Bk.keep0 hbx9 kk) rfl rfl) ?_
  refine pw_g [(1, _)] rfl rfl ⟨rfl, trivial⟩ rfl (fun W' kk => g_mv rfl) ?_
  refine pw_g [(10, _)] rfl rfl ⟨rfl, trivial⟩ rfl (fun W' kk => g_mv rfl) ?_
  refine pw_g [(35, _)] rfl rfl ⟨rfl, trivial⟩ rfl (fun W' kk => g_quo rfl rfl (by omega)) ?_
  refine pw_g [(34, _), (36, _)] rfl rfl ⟨rfl, rfl, trivial⟩ rfl (fun W' kk => g_ix Try.underlying22 ty5 rfl (by first | exact Rd.keep0 ‹_› kk | exact Rd.keep0 (Own.rd ‹_›) kk | exact Rd.keep0 (Rd.keep0 ‹_› hB) kk | exact Rd.keep0 (Own.rd (Own.keep0 ‹_› hB)) kk) rfl (by omega)) ?_
  refine pw_g [(37, _)] rfl rfl ⟨rfl, trivial⟩ rfl (fun W' kk => g_ldB sc5 rfl (by first | exact Rd.keep0 ‹_› kk | exact Rd.keep0 (Own.rd ‹_›) kk | exact Rd.keep0 (Rd.keep0 ‹_› hB) kk | exact Rd.keep0 (Own.rd (Own.keep0 ‹_› hB)) kk) (by omega)) ?_
  refine pw_g [(10, _)] rfl rfl ⟨rfl, trivial⟩ rfl (fun W' kk => g_mv rfl) ?_
  refine pw_g [(39, _)] rfl rfl ⟨rfl, trivial⟩ rfl (fun W' kk => g_rem rfl rfl (by omega)) ?_
  refine pw_g [(40, _)] rfl rfl ⟨rfl, trivial⟩ rfl (fun W' kk => g_mul rfl rfl (by omega)) ?_
  refine pw_g [(38, _), (41, _)] rfl rfl ⟨rfl, rfl, trivial⟩ rfl (fun W' kk => g_shr rfl rfl (by constructor <;> (try simp only [IntKind.bits]) <;> omega)) ?_
  refine pw_gx (e' := nib xs j) (lo := 0) (hi := 15) [(42, _)] rfl rfl ⟨rfl, trivial⟩ rfl (fun W' kk => g_and rfl rfl) (nib_eq hx hj0 hj1) (nib_in xs j) (fun z10 h1 r1 => ?_)
  refine pw_g [(7, _), (43, _)] rfl rfl ⟨rfl, rfl, trivial⟩ rfl (fun W' kk => g_ixa Try.underlying82 ty30 rfl rfl (by have := r1; unfold In at this; omega)) ?_
  refine pw_g [(44, _)] rfl rfl ⟨rfl, trivial⟩ rfl (fun W' kk => g_ldiv ag30 ty30 rfl (Bk.keep0 hbx7 kk) (by have := r1; unfold In at this; omega)) ?_
  refine pw_g [(6, _)] rfl rfl ⟨rfl, trivial⟩ rfl (fun W' kk => g_ldab (cs' := [_, _, _, _, _]) ag28 ty28 rfl (Bk.keep0 hbx6 kk) rfl rfl) ?_
  refine pw_d [(33, _), (45, _), (46, _)] rfl rfl ⟨rfl, rfl, rfl, trivial⟩ rfl (d_call (vs := [_, _, _]) rfl (plusR hO (hwin (z10).toNat (by have := r1; unfold In at this; omega)) (on_mul ha _) (on_mul ha _) E1 _)) ?_
  rintro _ w19 ⟨hh6, rfl, E6, k17⟩
  refine ⟨k17, ?_⟩
  replace hbx4 := hbx4.keep0 k17
  replace hbx6 := hbx6.keep0 k17
  replace hbx7 := hbx7.keep0 k17
  replace hbx9 := hbx9.keep0 k17
  replace hB := hB.trans k17
  replace E6 : PtR hh6 (pmul (topN xs j) a) := by rw [← pmul_dig ha hj0, ← h1]; exact E6
  refine pw_nil ?_
  refine ow_d0 (d_sta ty30 rfl rfl rfl ivF_one hbx9 rfl) ?_
  rintro _ w20 ⟨hb10, k18, z11⟩
  replace hbx4 := hbx4.keep k18 (fun hm => absurd (List.mem_singleton.1 hm) ne_b2_b5)
  replace hbx6 := hbx6.keep k18 (fun hm => absurd (List.mem_singleton.1 hm) ne_b3_b5)
  replace hbx7 := hbx7.keep k18 (fun hm => absurd (List.mem_singleton.1 hm) ne_b4_b5)
  replace hB := hB.new k18 (fun x hx => .inl ((List.mem_singleton.1 hx) ▸ ge_b5))
  clear z11
  replace hb10 : Bk w20 b5 _ [.int .u64 (hh6 0), .int .u64 (hh6 1), .int .u64 (hh6 2), .int .u64 (hh6 3), .int .u64 (hh6 4), .int .u64 (hh6 5), .int .u64 (hh6 6), .int .u64 (hh6 7), .int .u64 (hh6 8), .int .u64 (hh6 9), .int .u64 (hh6 10), .int .u64 (hh6 11), .int .u64 (hh6 12), .int .u64 (hh6 13), .int .u64 (hh6 14), .int .u64 (hh6 15), .int .u64 (hh6 16), .int .u64 (hh6 17), .int .u64 (hh6 18), .int .u64 (hh6 19)] := hb10
  refine ow_nil (tw_seq (tw_seq (tw_region (ow_g (g_mv rfl) rfl (ow_g (g_eq rfl rfl) rfl ?_)))))
  refine ow_nil (tw_if rfl (fun hc2 => ?_) (fun hc2 => ?_))
  ·
   refine tw_goto rfl ?_
   refine tw_seq (tw_skip (tw_seq (tw_region (ow_g (g_ldab (cs' := [_, _, _, _, _, _, _, _, _, _, _, _, _, _, _, _, _, _, _, _]) ag30 ty30 rfl hb10 rfl rfl) rfl ?_))))
   refine ow_d0 (d_sta ty30 rfl rfl rfl (by simp only [List.forall_mem_cons]; refine ⟨rfl, rfl, rfl, rfl, rfl, rfl, rfl, rfl, rfl, rfl, rfl, rfl, rfl, rfl, rfl, rfl, rfl, rfl, rfl, rfl, fun v hv => by cases hv⟩) hbx4 rfl) ?_
   rintro _ w21 ⟨hb11, k19, z12⟩
   replace hbx6 := hbx6.keep k19 (fun hm => absurd (List.mem_singleton.1 hm) (Ne.symm ne_b2_b3))
   replace hbx7 := hbx7.keep k19 (fun hm => absurd (List.mem_singleton.1 hm) (Ne.symm ne_b2_b4))
   replace hb10 := hb10.keep k19 (fun hm => absurd (List.mem_singleton.1 hm) (Ne.symm ne_b2_b5))
   replace hB := hB.new k19 (fun x hx => .inl ((List.mem_singleton.1 hx) ▸ ge_b2))
   clear z12
   replace hb11 : Bk w21 b2 _ [.int .u64 (hh6 0), .int .u64 (hh6 1), .int .u64 (hh6 2), .int .u64 (hh6 3), .int .u64 (hh6 4), .int .u64 (hh6 5), .int .u64 (hh6 6), .int .u64 (hh6 7), .int .u64 (hh6 8), .int .u64 (hh6 9), .int .u64 (hh6 10), .int .u64 (hh6 11), .int .u64 (hh6 12), .int .u64 (hh6 13), .int .u64 (hh6 14), .int .u64 (hh6 15), .int .u64 (hh6 16), .int .u64 (hh6 17), .int .u64 (hh6 18), .int .u64 (hh6 19)] := hb11
   refine ow_g (g_as rfl) rfl (ow_nil (tw_retct hfin Try.results20 rfl (run_loadAgg ag30 ty30 ‹_› rfl) rfl ?_))
   exact ⟨hh6, rfl, (by have e : PtR hh6 (pmul (topN xs j) a) := E6; rw [hc2, topN_zero] at e; exact e), hB⟩
  ·
   refine tw_skip (tw_seq (tw_seq (tw_region (ow_g (g_mv rfl) rfl (ow_nil (tw_block ?_))))))
   refine tw_unroll 4 ?_
   refine tw_seq (tw_region (ow_g (g_lt rfl rfl) rfl ?_))
   refine ow_nil (tw_seq (tw_ifT rfl (by decide) ?_))
   refine tw_skip (tw_seq (tw_block (tw_region (ow_g (g_ldab (cs' := [_, _, _, _, _, _, _, _, _, _, _, _, _, _, _, _, _, _, _, _]) ag30 ty30 rfl hb10 rfl rfl) rfl ?_))))
   refine ow_d (d_call (vs := [_]) rfl (doubleR E6 (on_mul ha _) _)) rfl ?_
   rintro _ w22 ⟨hh7, rfl, E7, k20⟩
   replace hbx4 := hbx4.keep0 k20
   replace hbx6 := hbx6.keep0 k20
   replace hbx7 := hbx7.keep0 k20
   replace hb10 := hb10.keep0 k20
   replace hB := hB.trans k20
   replace E7 : PtR hh7 (pmul ((topN xs j) * 2) a) := by rw [← pmul_two ha]; exact E7
   refine ow_d0 (d_sta ty30 rfl rfl rfl ivF_one hb10 rfl) ?_
   rintro _ w23 ⟨hb12, k21, z13⟩
   replace hbx4 := hbx4.keep k21 (fun hm => absurd (List.mem_singleton.1 hm) ne_b2_b5)
   replace hbx6 := hbx6.keep k21 (fun hm => absurd (List.mem_singleton.1 hm) ne_b3_b5)
   replace hbx7 := hbx7.keep k21 (fun hm => absurd (List.mem_singleton.1 hm) ne_b4_b5)
   replace hB := hB.new k21 (fun x hx => .inl ((List.mem_singleton.1 hx) ▸ ge_b5))
   clear z13
   replace hb12 : Bk w23 b5 _ [.int .u64 (hh7 0), .int .u64 (hh7 1), .int .u64 (hh7 2), .int .u64 (hh7 3), .int .u64 (hh7 4), .int .u64 (hh7 5), .int .u64 (hh7 6), .int .u64 (hh7 7), .int .u64 (hh7 8), .int .u64 (hh7 9), .int .u64 (hh7 10), .int .u64 (hh7 11), .int .u64 (hh7 12), .int .u64 (hh7 13), .int .u64 (hh7 14), .int .u64 (hh7 15), .int .u64 (hh7 16), .int .u64 (hh7 17), .int .u64 (hh7 18), .int .u64 (hh7 19)] := hb12
   refine ow_nil (tw_b (tw_region (ow_g (g_fold (j := 1) (g_addw rfl rfl) (by decide)) rfl ?_)))
   refine ow_g (g_mv rfl) rfl (ow_nil (tw_lp (tw_seq (tw_region (ow_g (g_lt rfl rfl) rfl ?_)))))
   refine ow_nil (tw_seq (tw_ifT rfl (by decide) ?_))
   refine tw_skip (tw_seq (tw_block (tw_region (ow_g (g_ldab (cs' := [_, _, _, _, _, _, _, _, _, _, _, _, _, _, _, _, _, _, _, _]) ag30 ty30 rfl hb12 rfl rfl) rfl ?_))))
   refine ow_d (d_call (vs := [_]) rfl (doubleR E7 (on_mul ha _) _)) rfl ?_
   rintro _ w24 ⟨hh8, rfl, E8, k22⟩
   replace hbx4 := hbx4.keep0 k22
   replace hbx6 := hbx6.keep0 k22
   replace hbx7 := hbx7.keep0 k22
   replace hb12 := hb12.keep0 k22
   replace hB := hB.trans k22
   replace E8 : PtR hh8 (pmul (((topN xs j) * 2) * 2) a) := by rw [← pmul_two ha]; exact E8
   refine ow_d0 (d_sta ty30 rfl rfl rfl ivF_one hb12 rfl) ?_
   rintro _ w25 ⟨hb13, k23, z14⟩
   replace hbx4 := hbx4.keep k23 (fun hm => absurd (List.mem_singleton.1 hm) ne_b2_b5)
   replace hbx6 := hbx6.keep k23 (fun hm => absurd (List.mem_singleton.1 hm) ne_b3_b5)
   replace hbx7 := hbx7.keep k23 (fun hm => absurd (List.mem_singleton.1 hm) ne_b4_b5)
   replace hB := hB.new k23 (fun x hx => .inl ((List.mem_singleton.1 hx) ▸ ge_b5))
   clear z14
   replace hb13 : Bk w25 b5 _ [.int .u64 (hh8 0), .int .u64 (hh8 1), .int .u64 (hh8 2), .int .u64 (hh8 3), .int .u64 (hh8 4), .int .u64 (hh8 5), .int .u64 (hh8 6), .int .u64 (hh8 7), .int .u64 (hh8 8), .int .u64 (hh8 9), .int .u64 (hh8 10), .int .u64 (hh8 11), .int .u64 (hh8 12), .int .u64 (hh8 13), .int .u64 (hh8 14), .int .u64 (hh8 15), .int .u64 (hh8 16), .int .u64 (hh8 17), .int .u64 (hh8 18), .int .u64 (hh8 19)] := hb13
   refine ow_nil (tw_b (tw_region (ow_g (g_fold (j := 2) (g_addw rfl rfl) (by decide)) rfl ?_)))
   refine ow_g (g_mv rfl) rfl (ow_nil (tw_lp (tw_seq (tw_region (ow_g (g_lt rfl rfl) rfl ?_)))))
   refine ow_nil (tw_seq (tw_ifT rfl (by decide) ?_))
   refine tw_skip (tw_seq (tw_block (tw_region (ow_g (g_ldab (cs' := [_, _, _, _, _, _, _, _, _, _, _, _, _, _, _, _, _, _, _, _]) ag30 ty30 rfl hb13 rfl rfl) rfl ?_))))
   refine ow_d (d_call (vs := [_]) rfl (doubleR E8 (on_mul ha _) _)) rfl ?_
   rintro _ w26 ⟨hh9, rfl, E9, k24⟩
   replace hbx4 := hbx4.keep0 k24
   replace hbx6 := hbx6.keep0 k24
   replace hbx7 := hbx7.keep0 k24
   replace hb13 := hb13.keep0 k24
   replace hB := hB.trans k24
   replace E9 : PtR hh9 (pmul ((((topN xs j) * 2) * 2) * 2) a) := by rw [← pmul_two ha]; exact E9
   refine ow_d0 (d_sta ty30 rfl rfl rfl ivF_one hb13 rfl) ?_
   rintro _ w27 ⟨hb14, k25, z15⟩
   replace hbx4 := hbx4.keep k25 (fun hm => absurd (List.mem_singleton.1 hm) ne_b2_b5)
   replace hbx6 := hbx6.keep k25 (fun hm => absurd (List.mem_singleton.1 hm) ne_b3_b5)
   replace hbx7 := hbx7.keep k25 (fun hm => absurd (List.mem_singleton.1 hm) ne_b4_b5)
   replace hB := hB.new k25 (fun x hx => .inl ((List.mem_singleton.1 hx) ▸ ge_b5))
   clear z15
   replace hb14 : Bk w27 b5 _ [.int .u64 (hh9 0), .int .u64 (hh9 1), .int .u64 (hh9 2), .int .u64 (hh9 3), .int .u64 (hh9 4), .int .u64 (hh9 5), .int .u64 (hh9 6), .int .u64 (hh9 7), .int .u64 (hh9 8), .int .u64 (hh9 9), .int .u64 (hh9 10), .int .u64 (hh9 11), .int .u64 (hh9 12), .int .u64 (hh9 13), .int .u64 (hh9 14), .int .u64 (hh9 15), .int .u64 (hh9 16), .int .u64 (hh9 17), .int .u64 (hh9 18), .int .u64 (hh9 19)] := hb14
   refine ow_nil (tw_b (tw_region (ow_g (g_fold (j := 3) (g_addw rfl rfl) (by decide)) rfl ?_)))
   refine ow_g (g_mv rfl) rfl (ow_nil (tw_lp (tw_seq (tw_region (ow_g (g_lt rfl rfl) rfl ?_)))))
   refine ow_nil (tw_seq (tw_ifT rfl (by decide) ?_))
   refine tw_skip (tw_seq (tw_block (tw_region (ow_g (g_ldab (cs' := [_, _, _, _, _, _, _, _, _, _, _, _, _, _, _, _, _, _, _, _]) ag30 ty30 rfl hb14 rfl rfl) rfl ?_))))
   refine ow_d (d_call (vs := [_]) rfl (doubleR E9 (on_mul ha _) _)) rfl ?_
   rintro _ w28 ⟨hh10, rfl, E10, k26⟩
   replace hbx4 := hbx4.keep0 k26
   replace hbx6 := hbx6.keep0 k26
   replace hbx7 := hbx7.keep0 k26
   replace hb14 := hb14.keep0 k26
   replace hB := hB.trans k26
   replace E10 : PtR hh10 (pmul (((((topN xs j) * 2) * 2) * 2) * 2) a) := by rw [← pmul_two ha]; exact E10
   refine ow_d0 (d_sta ty30 rfl rfl rfl ivF_one hb14 rfl) ?_
   rintro _ w29 ⟨hb15, k27, z16⟩
   replace hbx4 := hbx4.keep k27 (fun hm => absurd (List.mem_singleton.1 hm) ne_b2_b5)
   replace hbx6 := hbx6.keep k27 (fun hm => absurd (List.mem_singleton.1 hm) ne_b3_b5)
   replace hbx7 := hbx7.keep k27 (fun hm => absurd (List.mem_singleton.1 hm) ne_b4_b5)
   replace hB := hB.new k27 (fun x hx => .inl ((List.mem_singleton.1 hx) ▸ ge_b5))
   clear z16
   replace hb15 : Bk w29 b5 _ [.int .u64 (hh10 0), .int .u64 (hh10 1), .int .u64 (hh10 2), .int .u64 (hh10 3), .int .u64 (hh10 4), .int .u64 (hh10 5), .int .u64 (hh10 6), .int .u64 (hh10 7), .int .u64 (hh10 8), .int .u64 (hh10 9), .int .u64 (hh10 10), .int .u64 (hh10 11), .int .u64 (hh10 12), .int .u64 (hh10 13), .int .u64 (hh10 14), .int .u64 (hh10 15), .int .u64 (hh10 16), .int .u64 (hh10 17), .int .u64 (hh10 18), .int .u64 (hh10 19)] := hb15
   refine ow_nil (tw_b (tw_region (ow_g (g_fold (j := 4) (g_addw rfl rfl) (by decide)) rfl ?_)))
   refine ow_g (g_mv rfl) rfl (ow_nil (tw_lp (tw_seq (tw_region (ow_g (g_lt rfl rfl) rfl ?_)))))
   refine ow_nil (tw_seq (tw_ifF rfl (by decide) ?_))
   refine tw_exit rfl ?_
   refine tw_seq (tw_region (ow_g (g_mv rfl) rfl (ow_g (g_sub rfl rfl (by omega)) rfl ?_)))
   refine ow_g (g_as rfl) rfl (ow_nil (tw_seq (tw_goto rfl ?_)))
   refine tw_seq (tw_skip (tw_keep [(1, v), (4, .pointer (some ⟨b2, 0, none⟩)), (6, .pointer (some ⟨b3, 0, none⟩)), (7, .pointer (some ⟨b4, 0, none⟩)), (9, .pointer (some ⟨b5, 0, none⟩)), (10, .int .i64 (j - 1))] ⟨rfl, rfl, rfl, rfl, rfl, rfl, trivial⟩ ?_))
   exact again ⟨j - 1, hh10⟩ _ (by show (j - 1 + 1).toNat ≤ _; have : (j + 1).toNat ≤ mm + 1 := hmu; omega) (⟨by omega, by omega, (by rw [show j - 1 + 1 = j by omega, show topN xs j * 16 = topN xs j * 2 * 2 * 2 * 2 by omega]; exact E10), hbx4, hbx6, hbx7, hb15, hB⟩)
end Go.Proofs.Ytkngeapegpehpaa.W
namespace Go.Proofs.Ytkngeapegpehpaa.W
open Go Go.Eng Go.Byt
set_option linter.unusedVariables false
set_option linter.unusedSimpArgs false
open Go.Fld Go.Ed
attribute [local irreducible] encB
def fit (xs : List UInt8) : List UInt8 := xs.take (min xs.length 32) ++ List.replicate (32 - min xs.length 32) 0
theorem fit_len (xs : List UInt8) : (fit xs).length = 32 := by unfold fit; rw [List.length_append, List.length_take, List.length_replicate]; omega
theorem fit_eq (xs : List UInt8) : (bv xs).take (min xs.length 32) ++ (List.replicate 32 (Value.int .u8 0)).drop (min xs.length 32) = bv (fit xs) := by
  unfold fit
  rw [bv_append, bv_take, List.drop_replicate, ← bv_zeros]
set_option maxRecDepth 100000 in
set_option maxHeartbeats 1000000 in
theorem fit_any (v : Value) (xs : List UInt8) (w : World) (hv : RdB w v xs) : Rets Try.prog 24 [v] w (fun r w' => Own w' w.heap.size 5 1 r 32 (bv (fit xs)) ∧ Keep [] w w') := by
 have hB : Keep [] w w := Keep.refl _ _
 refine rets_of_tw Try.func24 rfl (by decide) Try.ntmps24 rfl (fun fin _ hfin => ?_)
 refine tw_seq (tw_region (ow_g (g_as rfl) rfl (ow_nil (tw_seq (tw_region (ow_d (d_mk Try.underlying22 ty5 rfl rfl (by omega) (by constructor <;> omega)) rfl ?_))))))
 rintro q w1 ⟨o1, _, hvb, k1, _⟩
 have o2 : Own w1 w.heap.size 5 1 q 32 (List.replicate 32 (.int .u8 0)) := o1.lo hB.size
 clear o1
 replace hv := hv.keep0 k1
 replace hB := hB.trans k1
 refine ow_g (g_as rfl) rfl (ow_nil (tw_seq (tw_region (ow_g (g_mv rfl) rfl (ow_g (g_mv rfl) rfl (ow_d (d_cp Try.underlying22 ty5 rfl o2 rfl hv (bv_one _) rfl) rfl ?_))))))
 rintro _ w2 ⟨rfl, o3, k2, z2⟩
 replace hB := hB.new k2 (fun x hx => .inl (o2.blk x hx).1)
 rw [fit_eq] at o3
 refine ow_nil (tw_seq (tw_region (ow_g (g_mv rfl) rfl (ow_g (g_as rfl) rfl (ow_nil (tw_ret1 hfin Try.results24 rfl ?_))))))
 exact ⟨o3, hB⟩
set_option maxRecDepth 100000 in
set_option maxHeartbeats 1000000 in
theorem num_any (e : Int) (w : World) : Rets Try.prog 11 [.int .i64 e] w (fun r w' => r = .int .i64 e ∧ w = w') := by
 refine rets_of_tw Try.func11 rfl (by decide) Try.ntmps11 rfl (fun fin _ hfin => ?_)
 refine tw_seq (tw_region (ow_g (g_as rfl) rfl (ow_nil (tw_seq (tw_region (ow_g (g_mv rfl) rfl ?_))))))
 refine ow_g (g_as rfl) rfl (ow_nil (tw_ret1 hfin Try.results11 rfl ?_))
 exact ⟨rfl, rfl⟩
set_option maxRecDepth 100000 in
set_option maxHeartbeats 1000000 in
theorem some_any (v : Value) (xs : List UInt8) (w : World) (hv : RdB w v xs) : Rets Try.prog 22 [v] w (fun r w' => ∃ p, r = .agg (iv .u64 20 p).toArray ∧ PtR p (pmul (leI (fit xs)).toNat basePt) ∧ Keep [] w w') := by
 have hB : Keep [] w w := Keep.refl _ _
 refine rets_of_tw Try.func22 rfl (by decide) Try.ntmps22 rfl (fun fin _ hfin => ?_)
 refine tw_seq (tw_region (ow_d (d_alloc ty30) rfl ?_))
 rintro _ w1 ⟨b1, rfl, eb1, hb1, k1, z1⟩
 have ge_b1 : w.heap.size ≤ b1 := by have := hB.size; omega
 replace hB := hB.trans k1
 clear eb1 z1
 refine ow_nil (tw_seq (tw_region (ow_d (d_call (vs := []) rfl (Pbase_any _)) rfl ?_)))
 rintro _ w2 ⟨hh1, rfl, E1, k2⟩
 replace hb1 := hb1.keep0 k2
 replace hB := hB.trans k2
 refine ow_g (g_mv rfl) rfl (ow_d (d_call (vs := [_]) rfl (fit_any _ xs _ (by first | assumption | exact Own.rd ‹_› | exact Rd.keep0 ‹_› hB | exact Own.rd (Own.keep0 ‹_› hB)))) rfl ?_)
 rintro v1 w3 ⟨o1, k3⟩
 have gl_o1 := hB.size
 have sb_b1_o1 := fun x hx => (show x ≠ b1 from by have h1 := (o1.blk x hx).1; have h2 := hb1.lt; omega)
 replace hb1 := hb1.keep0 k3
 replace hB := hB.trans k3
 have u_o1 := o1.blk
 refine ow_d (d_call (vs := [_, _]) rfl (Ptimes_32 _ _ _ _ E1 base_on _ (by show Rd _ 1 _ _ _; rw [fit_len]; exact o1.rd) (fit_len _))) rfl ?_
 rintro _ w4 ⟨hh2, rfl, E2, k4⟩
 replace hb1 := hb1.keep0 k4
 replace o1 := o1.keep0 k4
 replace hB := hB.trans k4
 refine ow_g (g_mv rfl) rfl (ow_g (g_ext (vs := [_, _]) rfl rfl) rfl ?_)
 refine ow_g (g_ext (vs := [_, _]) rfl rfl) rfl ?_
 refine ow_d (d_alloc ty30) rfl ?_
 rintro _ w5 ⟨b2, rfl, eb2, hb2, k5, z2⟩
 have ge_b2 : w.heap.size ≤ b2 := by have := hB.size; omega
 have ne_b1_b2 : b1 ≠ b2 := by have := hb1.lt; omega
 have sb_b2_o1 := fun x hx => (show x ≠ b2 from by have := (o1.blk x hx).2; omega)
 replace hb1 := hb1.keep0 k5
 replace o1 := o1.keep0 k5
 replace hB := hB.trans k5
 clear eb2 z2
 refine ow_d0 (d_sta ty30 rfl rfl rfl ivF_one hb2 rfl) ?_
 rintro _ w6 ⟨hb3, k6, z3⟩
 replace hb1 := hb1.keep k6 (fun hm => absurd (List.mem_singleton.1 hm) ne_b1_b2)
 replace o1 := o1.keep k6 (fun x hx hm => sb_b2_o1 x hx (List.mem_singleton.1 hm))
 replace hB := hB.new k6 (fun x hx => .inl ((List.mem_singleton.1 hx) ▸ ge_b2))
 clear z3
 replace hb3 : Bk w6 b2 _ [.int .u64 (hh2 0), .int .u64 (hh2 1), .int .u64 (hh2 2), .int .u64 (hh2 3), .int .u64 (hh2 4), .int .u64 (hh2 5), .int .u64 (hh2 6), .int .u64 (hh2 7), .int .u64 (hh2 8), .int .u64 (hh2 9), .int .u64 (hh2 10), .int .u64 (hh2 11), .int .u64 (hh2 12), .int .u64 (hh2 13), .int .u64 (hh2 14), .int .u64 (hh2 15), .int .u64 (hh2 16), .int .u64 (hh2 17), .int .u64 (hh2 18), .int .u64 (hh2 19)] := hb3
 refine ow_g (g_as rfl) rfl (ow_nil (tw_seq (tw_region (ow_g (g_ldab (cs' := [_, _, _, _, _, _, _, _, _, _, _, _, _, _, _, _, _, _, _, _]) ag30 ty30 rfl hb3 rfl rfl) rfl ?_))))
 refine ow_d0 (d_sta ty30 rfl rfl rfl (by simp only [List.forall_mem_cons]; refine ⟨rfl, rfl, rfl, rfl, rfl, rfl, rfl, rfl, rfl, rfl, rfl, rfl, rfl, rfl, rfl, rfl, rfl, rfl, rfl, rfl, fun v hv => by cases hv⟩) hb1 rfl) ?_
 rintro _ w7 ⟨hb4, k7, z4⟩
 replace o1 := o1.keep k7 (fun x hx hm => sb_b1_o1 x hx (List.mem_singleton.1 hm))
 replace hb3 := hb3.keep k7 (fun hm => absurd (List.mem_singleton.1 hm) (Ne.symm ne_b1_b2))
 replace hB := hB.new k7 (fun x hx => .inl ((List.mem_singleton.1 hx) ▸ ge_b1))
 clear z4
 replace hb4 : Bk w7 b1 _ [.int .u64 (hh2 0), .int .u64 (hh2 1), .int .u64 (hh2 2), .int .u64 (hh2 3), .int .u64 (hh2 4), .int .u64 (hh2 5), .int .u64 (hh2 6), .int .u64 (hh2 7), .int .u64 (hh2 8), .int .u64 (hh2 9), .int .u64 (hh2 10), .int .u64 (hh2 11), .int .u64 (hh2 12), .int .u64 (hh2 13), .int .u64 (hh2 14), .int .u64 (hh2 15), .int .u64 (hh2 16), .int .u64 (hh2 17), .int .u64 (hh2 18), .int .u64 (hh2 19)] := hb4
 refine ow_nil (tw_keep [(2, _)] ⟨rfl, trivial⟩ ?_)
 refine tw_retc hfin Try.results22 rfl (run_loadAgg ag30 ty30 ‹_› rfl)  ?_
 exact ⟨hh2, rfl, E2, hB⟩
def zeroB : List UInt8 := 1 :: List.replicate 31 0
theorem enc_base : encB basePt.1 basePt.2 = baseB := by unfold encB; decide +kernel
theorem enc_zero : encB zero.1 zero.2 = zeroB := by unfold encB; decide +kernel
theorem PencBase {p : Nat → Int} (hp : PtR p basePt) (w : World) : Rets Try.prog 16 [.agg (iv .u64 20 p).toArray] w (fun v w' => Own w' w.heap.size 5 1 v 32 (bv baseB) ∧ Keep [] w w') := by
  have h := PencodeR hp w
  rw [enc_base] at h; exact h
theorem PencZero {p : Nat → Int} (hp : PtR p zero) (w : World) : Rets Try.prog 16 [.agg (iv .u64 20 p).toArray] w (fun v w' => Own w' w.heap.size 5 1 v 32 (bv zeroB) ∧ Keep [] w w') := by
  have h := PencodeR hp w
  rw [enc_zero] at h; exact h
set_option maxRecDepth 100000 in
set_option maxHeartbeats 1000000 in
theorem knows_any (w : World) : Rets Try.prog 13 [] w (fun r w' => r = .bool true ∧ Keep [] w w') := by
 have hB : Keep [] w w := Keep.refl _ _
 refine rets_of_tw Try.func13 rfl (by decide) Try.ntmps13 rfl (fun fin _ hfin => ?_)
 refine tw_seq (tw_region (ow_g (g_as rfl) rfl (ow_nil (tw_seq (tw_region (ow_d (d_call (vs := []) rfl (Pbase_any _)) rfl ?_))))))
 rintro _ w1 ⟨hh1, rfl, E1, k1⟩
 replace hB := hB.trans k1
 refine ow_d (d_call (vs := [_]) rfl (PencBase E1 _)) rfl ?_
 rintro v1 w2 ⟨o1, k2⟩
 have gl_o1 := hB.size
 replace hB := hB.trans k2
 have u_o1 := o1.blk
 refine ow_g (g_as rfl) rfl (ow_nil (tw_seq (tw_region (ow_d (d_call (vs := []) rfl (PzeroR _)) rfl ?_))))
 rintro _ w3 ⟨hh2, rfl, E2, k3⟩
 replace o1 := o1.keep0 k3
 replace hB := hB.trans k3
 refine ow_d (d_call (vs := [_]) rfl (PencZero E2 _)) rfl ?_
 rintro v2 w4 ⟨o2, k4⟩
 have gl_o2 := hB.size
 replace o1 := o1.keep0 k4
 replace hB := hB.trans k4
 have u_o2 := o2.blk
 refine ow_g (g_as rfl) rfl (ow_nil (tw_seq (tw_region (ow_d (d_call (vs := [_]) rfl (Pdecode_no _ [] _ (Rd.nil _ _) (by decide))) rfl ?_))))
 rintro _ w5 ⟨rfl, k5⟩
 replace o1 := o1.keep0 k5
 replace o2 := o2.keep0 k5
 replace hB := hB.trans k5
 refine ow_g (g_mv rfl) rfl (ow_g (g_ext (vs := [_, _]) rfl rfl) rfl ?_)
 refine ow_g (g_ext (vs := [_, _]) rfl rfl) rfl ?_
 refine ow_d (d_alloc ty30) rfl ?_
 rintro _ w6 ⟨b1, rfl, eb1, hb1, k6, z1⟩
 have ge_b1 : w.heap.size ≤ b1 := by have := hB.size; omega
 have sb_b1_o1 := fun x hx => (show x ≠ b1 from by have := (o1.blk x hx).2; omega)
 have sb_b1_o2 := fun x hx => (show x ≠ b1 from by have := (o2.blk x hx).2; omega)
 replace o1 := o1.keep0 k6
 replace o2 := o2.keep0 k6
 replace hB := hB.trans k6
 clear eb1 z1
 refine ow_d0 (d_sta ty30 rfl rfl rfl ivF_one hb1 rfl) ?_
 rintro _ w7 ⟨hb2, k7, z2⟩
 replace o1 := o1.keep k7 (fun x hx hm => sb_b1_o1 x hx (List.mem_singleton.1 hm))
 replace o2 := o2.keep k7 (fun x hx hm => sb_b1_o2 x hx (List.mem_singleton.1 hm))
 replace hB := hB.new k7 (fun x hx => .inl ((List.mem_singleton.1 hx) ▸ ge_b1))
 clear z2
 replace hb2 : Bk w7 b1 _ [.int .u64 ((fun _ => 0) 0), .int .u64 ((fun _ => 0) 1), .int .u64 ((fun _ => 0) 2), .int .u64 ((fun _ => 0) 3), .int .u64 ((fun _ => 0) 4), .int .u64 ((fun _ => 0) 5), .int .u64 ((fun _ => 0) 6), .int .u64 ((fun _ => 0) 7), .int .u64 ((fun _ => 0) 8), .int .u64 ((fun _ => 0) 9), .int .u64 ((fun _ => 0) 10), .int .u64 ((fun _ => 0) 11), .int .u64 ((fun _ => 0) 12), .int .u64 ((fun _ => 0) 13), .int .u64 ((fun _ => 0) 14), .int .u64 ((fun _ => 0) 15), .int .u64 ((fun _ => 0) 16), .int .u64 ((fun _ => 0) 17), .int .u64 ((fun _ => 0) 18), .int .u64 ((fun _ => 0) 19)] := hb2
 refine ow_g (g_as rfl) rfl (ow_nil (tw_keep [(1, _), (2, _), (4, _)] ⟨rfl, rfl, rfl, trivial⟩ ?_))
 refine tw_seq (tw_region (ow_g (g_mv rfl) rfl (ow_g (g_len Try.underlying22 rfl (by first | assumption | exact Own.rd ‹_› | exact Rd.keep0 ‹_› hB | exact Own.rd (Own.keep0 ‹_› hB))) rfl ?_)))
 refine ow_g (g_eq rfl rfl) rfl ?_
 refine ow_g (g_mv rfl) rfl (ow_grp 16 true rfl (fun c1 hgc1 => ?_))
 refine ow_gg [(1, _)] (grd1 rfl rfl rfl hgc1) ⟨und0 rfl, trivial⟩ (fun hw1 => g_mv rfl) rfl ?_
 refine ow_gg [(17, _)] (grd1 rfl rfl rfl hgc1) ⟨und1 rfl, trivial⟩ (fun hw2 => g_ix Try.underlying22 ty5 rfl (by first | assumption | exact Own.rd ‹_› | exact Rd.keep0 ‹_› hB | exact Own.rd (Own.keep0 ‹_› hB)) rfl (by omega)) rfl ?_
 refine ow_gg [(18, _)] (grd1 rfl rfl rfl hgc1) ⟨und1 rfl, trivial⟩ (fun hw3 => g_ldB sc5 rfl (by first | assumption | exact Own.rd ‹_›) (by decide)) rfl ?_
 refine ow_gg [(19, _)] (grd1 rfl rfl rfl hgc1) ⟨und1 rfl, trivial⟩ (fun hw4 => g_eq rfl rfl) rfl ?_
 refine ow_g (g_pand rfl rfl hgc1) rfl ?_
 refine ow_g (g_mv rfl) rfl (ow_grp 22 true rfl (fun c2 hgc2 => ?_))
 refine ow_gg [(1, _)] (grd1 rfl rfl rfl hgc2) ⟨und0 rfl, trivial⟩ (fun hw5 => g_mv rfl) rfl ?_
 refine ow_gg [(23, _)] (grd1 rfl rfl rfl hgc2) ⟨und1 rfl, trivial⟩ (fun hw6 => g_ix Try.underlying22 ty5 rfl (by first | assumption | exact Own.rd ‹_› | exact Rd.keep0 ‹_› hB | exact Own.rd (Own.keep0 ‹_› hB)) rfl (by omega)) rfl ?_
 refine ow_gg [(24, _)] (grd1 rfl rfl rfl hgc2) ⟨und1 rfl, trivial⟩ (fun hw7 => g_ldB sc5 rfl (by first | assumption | exact Own.rd ‹_›) (by decide)) rfl ?_
 refine ow_gg [(25, _)] (grd1 rfl rfl rfl hgc2) ⟨und1 rfl, trivial⟩ (fun hw8 => g_eq rfl rfl) rfl ?_
 refine ow_g (g_pand rfl rfl hgc2) rfl ?_
 refine ow_g (g_mv rfl) rfl (ow_grp 28 true rfl (fun c3 hgc3 => ?_))
 refine ow_gg [(2, _)] (grd1 rfl rfl rfl hgc3) ⟨und0 rfl, trivial⟩ (fun hw9 => g_mv rfl) rfl ?_
 refine ow_gg [(29, _)] (grd1 rfl rfl rfl hgc3) ⟨und1 rfl, trivial⟩ (fun hw10 => g_len Try.underlying22 rfl (by first | assumption | exact Own.rd ‹_› | exact Rd.keep0 ‹_› hB | exact Own.rd (Own.keep0 ‹_› hB))) rfl ?_
 refine ow_gg [(30, _)] (grd1 rfl rfl rfl hgc3) ⟨und1 rfl, trivial⟩ (fun hw11 => g_eq rfl rfl) rfl ?_
 refine ow_g (g_pand rfl rfl hgc3) rfl ?_
 refine ow_g (g_mv rfl) rfl (ow_grp 33 true rfl (fun c4 hgc4 => ?_))
 refine ow_gg [(2, _)] (grd1 rfl rfl rfl hgc4) ⟨und0 rfl, trivial⟩ (fun hw12 => g_mv rfl) rfl ?_
 refine ow_gg [(34, _)] (grd1 rfl rfl rfl hgc4) ⟨und1 rfl, trivial⟩ (fun hw13 => g_ix Try.underlying22 ty5 rfl (by first | assumption | exact Own.rd ‹_› | exact Rd.keep0 ‹_› hB | exact Own.rd (Own.keep0 ‹_› hB)) rfl (by omega)) rfl ?_
 refine ow_gg [(35, _)] (grd1 rfl rfl rfl hgc4) ⟨und1 rfl, trivial⟩ (fun hw14 => g_ldB sc5 rfl (by first | assumption | exact Own.rd ‹_›) (by decide)) rfl ?_
 refine ow_gg [(36, _)] (grd1 rfl rfl rfl hgc4) ⟨und1 rfl, trivial⟩ (fun hw15 => g_eq rfl rfl) rfl ?_
 refine ow_g (g_pand rfl rfl hgc4) rfl ?_
 refine ow_g (g_mv rfl) rfl (ow_grp 39 true rfl (fun c5 hgc5 => ?_))
 refine ow_gg [(4, _)] (grd1 rfl rfl rfl hgc5) ⟨und0 rfl, trivial⟩ (fun hw16 => g_mv rfl) rfl ?_
 refine ow_gds [(40, _)] (grd1 rfl rfl rfl hgc5) ⟨und1 rfl, trivial⟩ (fun hw17 => d_call (vs := [_]) rfl (num_any _ _)) rfl ?_
 refine ow_gg [(41, _)] (grd1 rfl rfl rfl hgc5) ⟨und1 rfl, trivial⟩ (fun hw18 => g_eq rfl rfl) rfl ?_
 refine ow_g (g_pand rfl rfl hgc5) rfl ?_
 refine ow_g (g_as rfl) rfl (ow_nil (tw_keep [(0, _)] ⟨rfl, trivial⟩ ?_))
 refine tw_ret1 hfin Try.results13 rfl ?_
 exact ⟨by first | rfl | decide, hB⟩
end Go.Proofs.Ytkngeapegpehpaa.W
namespace Go.Proofs.Ytkngeapegpehpaa.W
open Go Go.Eng Go.Byt
set_option linter.unusedVariables false
set_option linter.unusedSimpArgs false
open Go.Fld Go.Ed
attribute [local irreducible] encB
end Go.Proofs.Ytkngeapegpehpaa.W
namespace Go.Fld
open Go Go.Eng Go.Ed Go.Byt
def Part (q : Nat → Int) (f g : Nat → Int) (i : Nat) : Prop := (∀ j, j < i → g j = q j) ∧ ∀ j, i ≤ j → g j = f j
theorem part_start (q f : Nat → Int) : Part q f f 0 := ⟨fun j hj => by omega, fun j _ => rfl⟩
theorem part_step {q f g : Nat → Int} {i : Nat} {v : Int} (h : Part q f g i) (hv : v = q i) : Part q f (upd g i v) (i + 1) := by
  refine ⟨fun j hj => ?_, fun j hj => ?_⟩
  · by_cases hji : j = i
    · subst hji; rw [upd_same, hv]
    · rw [upd_other _ _ hji]; exact h.1 j (by omega)
  · rw [upd_other _ _ (by omega)]; exact h.2 j (by omega)
end Go.Fld
namespace Go.Fld
open Go Go.Eng Go.Ed Go.Byt
end Go.Fld
