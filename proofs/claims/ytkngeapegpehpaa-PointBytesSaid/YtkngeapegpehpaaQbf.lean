/- Contracts and laws, part 6 of 6: what each function of the program and of the reference computes, shown once. -/
import Derived.Below
import Derived.ChangeOld
import Derived.OpenShut
import Derived.ProofKit
import Derived.ShutString
import Derived.SizedLaws
import Derived.WalkKit
import Derived.Test.YtkngeapegpehpaaQbe
namespace Go.Proofs.Ytkngeapegpehpaa.W
open Go Go.Eng Go.Byt
set_option linter.unusedVariables false
set_option linter.unusedSimpArgs false
open Go.Fld Go.Ed
attribute [local irreducible] encB
set_option maxRecDepth 100000 in
set_option maxHeartbeats 1000000 in
theorem Pencode_zero (w : World) : Rets Try.prog 16 [.agg (iv .u64 20 (fun _ => 0)).toArray] w (fun v w' => OwnB w' w.heap.size v (encB (0 * inv (fp 1)) (fp 1 * inv (fp 1))) ∧ Keep [] w w') := by
 have hB : Keep [] w w := Keep.refl _ _
 refine rets_of_tw Try.func16 rfl (by decide) Try.ntmps16 rfl (fun fin _ hfin => ?_)
 refine tw_seq (tw_region (ow_d (d_box (cs := [.int .u64 ((fun _ => 0) 0), .int .u64 ((fun _ => 0) 1), .int .u64 ((fun _ => 0) 2), .int .u64 ((fun _ => 0) 3), .int .u64 ((fun _ => 0) 4), .int .u64 ((fun _ => 0) 5), .int .u64 ((fun _ => 0) 6), .int .u64 ((fun _ => 0) 7), .int .u64 ((fun _ => 0) 8), .int .u64 ((fun _ => 0) 9), .int .u64 ((fun _ => 0) 10), .int .u64 ((fun _ => 0) 11), .int .u64 ((fun _ => 0) 12), .int .u64 ((fun _ => 0) 13), .int .u64 ((fun _ => 0) 14), .int .u64 ((fun _ => 0) 15), .int .u64 ((fun _ => 0) 16), .int .u64 ((fun _ => 0) 17), .int .u64 ((fun _ => 0) 18), .int .u64 ((fun _ => 0) 19)]) rfl rfl) rfl ?_))
 rintro _ w1 ⟨b1, rfl, eb1, hb1, k1, z1⟩
 have ge_b1 : w.heap.size ≤ b1 := by have := hB.size; omega
 replace hB := hB.trans k1
 clear eb1 z1
 refine ow_g (g_as rfl) rfl (ow_nil (tw_seq (tw_region (ow_g (g_ldab (cs' := [_, _, _, _, _, _, _, _, _, _, _, _, _, _, _, _, _, _, _, _]) ag30 ty30 rfl hb1 rfl rfl) rfl ?_))))
 refine ow_d (d_call (vs := [_]) rfl (full_zero _)) rfl ?_
 rintro _ w2 ⟨hh1, rfl, E1, k2⟩
 replace hb1 := hb1.keep0 k2
 replace hB := hB.trans k2
 refine ow_d0 (d_sta ty30 rfl rfl rfl ivF_one hb1 rfl) ?_
 rintro _ w3 ⟨hb2, k3, z2⟩
 replace hB := hB.new k3 (fun x hx => .inl ((List.mem_singleton.1 hx) ▸ ge_b1))
 clear z2
 replace hb2 : Bk w3 b1 _ [.int .u64 (hh1 0), .int .u64 (hh1 1), .int .u64 (hh1 2), .int .u64 (hh1 3), .int .u64 (hh1 4), .int .u64 (hh1 5), .int .u64 (hh1 6), .int .u64 (hh1 7), .int .u64 (hh1 8), .int .u64 (hh1 9), .int .u64 (hh1 10), .int .u64 (hh1 11), .int .u64 (hh1 12), .int .u64 (hh1 13), .int .u64 (hh1 14), .int .u64 (hh1 15), .int .u64 (hh1 16), .int .u64 (hh1 17), .int .u64 (hh1 18), .int .u64 (hh1 19)] := hb2
 refine ow_nil (tw_seq (tw_region (ow_g (g_fa Try.underlying30 rfl ty28 (by decide) rfl) rfl ?_)))
 refine ow_g (g_ldab (cs' := [_, _, _, _, _]) ag28 ty28 rfl hb2 rfl rfl) rfl ?_
 refine ow_d (d_call (vs := [_]) rfl (ninverse_any _ _ E1.2.2.1 _)) rfl ?_
 rintro _ w4 ⟨hh2, rfl, E2, k4⟩
 replace hb2 := hb2.keep0 k4
 replace hB := hB.trans k4
 refine ow_d (d_alloc ty28) rfl ?_
 rintro _ w5 ⟨b2, rfl, eb2, hb3, k5, z3⟩
 have ge_b2 : w.heap.size ≤ b2 := by have := hB.size; omega
 have ne_b1_b2 : b1 ≠ b2 := by have := hb2.lt; omega
 replace hb2 := hb2.keep0 k5
 replace hB := hB.trans k5
 clear eb2 z3
 refine ow_d0 (d_sta ty28 rfl rfl rfl ivF_one hb3 rfl) ?_
 rintro _ w6 ⟨hb4, k6, z4⟩
 replace hb2 := hb2.keep k6 (fun hm => absurd (List.mem_singleton.1 hm) ne_b1_b2)
 replace hB := hB.new k6 (fun x hx => .inl ((List.mem_singleton.1 hx) ▸ ge_b2))
 clear z4
 replace hb4 : Bk w6 b2 _ [.int .u64 (hh2 0), .int .u64 (hh2 1), .int .u64 (hh2 2), .int .u64 (hh2 3), .int .u64 (hh2 4)] := hb4
 refine ow_nil (tw_seq (tw_region (ow_g (g_fa Try.underlying30 rfl ty28 (by decide) rfl) rfl ?_)))
 refine ow_g (g_ldab (cs' := [_, _, _, _, _]) ag28 ty28 rfl hb2 rfl rfl) rfl ?_
 refine ow_g (g_ldab (cs' := [_, _, _, _, _]) ag28 ty28 rfl hb4 rfl rfl) rfl ?_
 refine ow_d (d_call (vs := [_, _]) rfl (ntimes_any _ _ _ _ E1.2.1 E2 _)) rfl ?_
 rintro _ w7 ⟨hh3, rfl, E3, k7⟩
 replace hb2 := hb2.keep0 k7
 replace hb4 := hb4.keep0 k7
 replace hB := hB.trans k7
 refine ow_d (d_call (vs := [_]) rfl (nbytes_any _ _ E3 _)) rfl ?_
 rintro v1 w8 ⟨o1, k8⟩
 have gl_o1 := hB.size
 have sb_b1_o1 := fun x hx => (show x ≠ b1 from by have h1 := (o1.blk x hx).1; have h2 := hb2.lt; omega)
 have sb_b2_o1 := fun x hx => (show x ≠ b2 from by have h1 := (o1.blk x hx).1; have h2 := hb4.lt; omega)
 replace hb2 := hb2.keep0 k8
 replace hb4 := hb4.keep0 k8
 replace hB := hB.trans k8
 have u_o1 := o1.blk
 have lnv1 := fpB_length ((fp 1) * (inv (fp 1)))
 refine ow_g (g_as rfl) rfl (ow_nil (tw_keep [(1, _), (3, _), (4, _)] ⟨rfl, rfl, rfl, trivial⟩ ?_))
 refine tw_seq (tw_plan 12 [0, 1, 2, 3, 4, 5, 6, 7, 8, 9, 10, 11] [6, 7] [] mixed [(4, _), (1, _), (3, _)] ⟨rfl, rfl, rfl, trivial⟩ (by decide +kernel) rfl (fun w9 k9 => ?_))
 replace hb2 := hb2.keep0 k9
 replace hb4 := hb4.keep0 k9
 replace o1 := o1.keep0 k9
 replace hB := hB.trans k9
 refine pw_g [(4, _)] rfl rfl ⟨rfl, trivial⟩ rfl (fun W' kk => g_mv rfl) ?_
 refine pw_g [(15, _)] rfl rfl ⟨rfl, trivial⟩ rfl (fun W' kk => g_ix Try.underlying22 ty5 rfl (by first | exact Rd.keep0 ‹_› kk | exact Rd.keep0 (Own.rd ‹_›) kk | exact Rd.keep0 (Rd.keep0 ‹_› hB) kk | exact Rd.keep0 (Own.rd (Own.keep0 ‹_› hB)) kk) rfl (by omega)) ?_
 refine pw_g [(16, _)] rfl rfl ⟨rfl, trivial⟩ rfl (fun W' kk => g_ldB sc5 rfl (by first | exact Rd.keep0 ‹_› kk | exact Rd.keep0 (Own.rd ‹_›) kk | exact Rd.keep0 (Rd.keep0 ‹_› hB) kk | exact Rd.keep0 (Own.rd (Own.keep0 ‹_› hB)) kk) (by omega)) ?_
 refine pw_g [(1, _)] rfl rfl ⟨rfl, trivial⟩ rfl (fun W' kk => g_fa Try.underlying30 rfl ty28 (by decide) rfl) ?_
 refine pw_g [(18, _)] rfl rfl ⟨rfl, trivial⟩ rfl (fun W' kk => g_ldab (cs' := [_, _, _, _, _]) ag28 ty28 rfl (Bk.keep0 hb2 kk) rfl rfl) ?_
 refine pw_g [(3, _)] rfl rfl ⟨rfl, trivial⟩ rfl (fun W' kk => g_ldab (cs' := [_, _, _, _, _]) ag28 ty28 rfl (Bk.keep0 hb4 kk) rfl rfl) ?_
 refine pw_d [(19, _), (20, _)] rfl rfl ⟨rfl, rfl, trivial⟩ rfl (d_call (vs := [_, _]) rfl (ntimes_any _ _ _ _ E1.1 E2 _)) ?_
 rintro _ w10 ⟨hh4, rfl, E4, k10⟩
 refine ⟨k10, ?_⟩
 replace hb2 := hb2.keep0 k10
 replace hb4 := hb4.keep0 k10
 replace o1 := o1.keep0 k10
 replace hB := hB.trans k10
 refine pw_d [(21, _)] rfl rfl ⟨rfl, trivial⟩ rfl (d_call (vs := [_]) rfl (nbytes_any _ _ E4 _)) ?_
 rintro v2 w11 ⟨o2, k11⟩
 refine ⟨k11, ?_⟩
 have gl_o2 := hB.size
 have sb_b1_o2 := fun x hx => (show x ≠ b1 from by have h1 := (o2.blk x hx).1; have h2 := hb2.lt; omega)
 have sb_b2_o2 := fun x hx => (show x ≠ b2 from by have h1 := (o2.blk x hx).1; have h2 := hb4.lt; omega)
 replace hb2 := hb2.keep0 k11
 replace hb4 := hb4.keep0 k11
 replace o1 := o1.keep0 k11
 replace hB := hB.trans k11
 have u_o2 := o2.blk
 have lnv2 := fpB_length (0 * (inv (fp 1)))
 refine pw_g [(22, _)] rfl rfl ⟨rfl, trivial⟩ rfl (fun W' kk => g_ix Try.underlying22 ty5 rfl (by first | exact Rd.keep0 ‹_› kk | exact Rd.keep0 (Own.rd ‹_›) kk | exact Rd.keep0 (Rd.keep0 ‹_› hB) kk | exact Rd.keep0 (Own.rd (Own.keep0 ‹_› hB)) kk) rfl (by omega)) ?_
 refine pw_g [(23, _)] rfl rfl ⟨rfl, trivial⟩ rfl (fun W' kk => g_ldB sc5 rfl (by first | exact Rd.keep0 ‹_› kk | exact Rd.keep0 (Own.rd ‹_›) kk | exact Rd.keep0 (Rd.keep0 ‹_› hB) kk | exact Rd.keep0 (Own.rd (Own.keep0 ‹_› hB)) kk) (by omega)) ?_
 refine pw_g [(24, _)] rfl rfl ⟨rfl, trivial⟩ rfl (fun W' kk => g_shlc (m := 128) rfl rfl (by decide) (by decide)) ?_
 refine pw_g [(17, _), (25, _)] rfl rfl ⟨rfl, rfl, trivial⟩ rfl (fun W' kk => g_or rfl rfl) ?_
 refine pw_nil ?_
 refine ow_g (g_ix Try.underlying22 ty5 rfl (by first | assumption | exact Own.rd ‹_› | exact Rd.keep0 ‹_› hB | exact Own.rd (Own.keep0 ‹_› hB)) rfl (by omega)) rfl ?_
 refine ow_d0 (d_sto (u := .int .u8 _) ty5 rfl rfl rfl o1 (by rw [bv_length, fpB_length]; decide)) ?_
 rintro _ w99 ⟨ow2, k99, z99⟩
 replace hB := hB.new k99 (fun x hx => .inl (Nat.le_trans gl_o1 (o1.blk x hx).1))
 rw [bv_setB (or_in (k := .u8) rfl rfl)] at ow2
 refine ow_nil (tw_keep [(4, _)] ⟨rfl, trivial⟩ ?_)
 refine tw_seq (tw_region (ow_g (g_mv rfl) rfl (ow_g (g_as rfl) rfl (ow_nil (tw_ret1 hfin Try.results16 rfl ?_)))))
 exact ⟨(by unfold OwnB encB; rw [List.length_set]; exact ow2.lo gl_o1), hB⟩
theorem PencodeZ {p : Nat → Int} {a : Pt} (hp : PtZ p a) (w : World) : Rets Try.prog 16 [.agg (iv .u64 20 p).toArray] w (fun v w' => OwnB w' w.heap.size v (encB a.1 a.2) ∧ Keep [] w w') := by
  rcases hp with hp | ⟨rfl, rfl⟩
  · exact PencodeR hp w
  · have h := Pencode_zero w
    rw [one_fp, inv_one] at h
    exact h
theorem PdecodeA (v : Value) (xs : List UInt8) (w : World) (hv : RdB w v xs) : Rets Try.prog 9 [v] w (fun u w' => ∃ p, u = .tuple #[.agg (iv .u64 20 p).toArray, .int .i64 (decE xs)] ∧ ((decE xs = 0 → PtR p (dcW xs)) ∧ PtZ p (dcW xs)) ∧ Keep [] w w') := by
  by_cases hx : xs.length = 32
  · refine (Pdecode_32 v xs w hv hx).mono fun u w' ⟨p, e, h1, h2, k⟩ => ⟨p, e, ?_, k⟩
    by_cases he : decE xs = 0
    · have h : PtR p (dcW xs) := by rw [dcW_yes he]; exact ptr_affine (h1 he)
      exact ⟨fun _ => h, .inl h⟩
    · exact ⟨fun h => absurd h he, .inr ⟨h2 he, dcW_no he⟩⟩
  · have he := decE_len hx
    refine (Pdecode_no v xs w hv hx).mono fun u w' ⟨e, k⟩ => ⟨_, by rw [e, he], ⟨fun h => ?_, .inr ⟨rfl, dcW_no (by rw [he]; decide)⟩⟩, k⟩
    rw [he] at h; cases h
theorem rdecodeA (v : Value) (xs : List UInt8) (w : World) (hv : RdB w v xs) : Rets Try.prog 10 [v] w (fun u w' => ∃ p, u = .tuple #[.agg (iv .i64 64 p).toArray, .int .i64 (decE xs)] ∧ (decE xs = 0 → RPt p (dcW xs)) ∧ Keep [] w w') := by
  by_cases hx : xs.length = 32
  · exact (rdecode_32 v xs w hv hx).mono fun u w' ⟨p, e, h1, k⟩ => ⟨p, e, fun he => by rw [dcW_yes he]; exact h1 he, k⟩
  · have he := decE_len hx
    refine (rdecode_no v xs w hv hx).mono fun u w' ⟨p, e, _, k⟩ => ⟨p, by rw [e, he], fun h => ?_, k⟩
    rw [he] at h; cases h
set_option maxRecDepth 100000 in
set_option maxHeartbeats 1000000 in
theorem PsameZ (p q : Nat → Int) (a b : Pt) (hp : PtZ p a) (hq : PtZ q b) (w : World) : Rets Try.prog 14 [.agg (iv .u64 20 p).toArray, .agg (iv .u64 20 q).toArray] w (fun v w' => v = .bool (decide (encB a.1 a.2 = encB b.1 b.2)) ∧ Keep [] w w') := by
 have hB : Keep [] w w := Keep.refl _ _
 refine rets_of_tw Try.func14 rfl (by decide) Try.ntmps14 rfl (fun fin _ hfin => ?_)
 refine tw_seq (tw_region (ow_d (d_box (cs := iv .u64 20 p) rfl rfl) rfl ?_))
 rintro _ w1 ⟨b1, rfl, eb1, hb1, k1, z1⟩
 have ge_b1 : w.heap.size ≤ b1 := by have := hB.size; omega
 replace hB := hB.trans k1
 clear eb1 z1
 refine ow_d (d_box (cs := iv .u64 20 q) rfl rfl) rfl ?_
 rintro _ w2 ⟨b2, rfl, eb2, hb2, k2, z2⟩
 have ge_b2 : w.heap.size ≤ b2 := by have := hB.size; omega
 have ne_b1_b2 : b1 ≠ b2 := by have := hb1.lt; omega
 replace hb1 := hb1.keep0 k2
 replace hB := hB.trans k2
 clear eb2 z2
 refine ow_g (g_as rfl) rfl (ow_nil (tw_seq (tw_plan 5 [0, 2, 1, 3, 4] [1, 3, 4] [] mixed [(2, _), (3, _), (4, _)] ⟨rfl, rfl, rfl, trivial⟩ (by decide +kernel) rfl (fun w3 k3 => ?_))))
 replace hb1 := hb1.keep0 k3
 replace hb2 := hb2.keep0 k3
 replace hB := hB.trans k3
 refine pw_g [(2, _)] rfl rfl ⟨rfl, trivial⟩ rfl (fun W' kk => g_ldab (cs' := iv .u64 20 p) ag30 ty30 rfl (Bk.keep0 hb1 kk) rfl rfl) ?_
 refine pw_g [(3, _)] rfl rfl ⟨rfl, trivial⟩ rfl (fun W' kk => g_ldab (cs' := iv .u64 20 q) ag30 ty30 rfl (Bk.keep0 hb2 kk) rfl rfl) ?_
 refine pw_d [(5, _)] rfl rfl ⟨rfl, trivial⟩ rfl (d_call (vs := [_]) rfl (PencodeZ hp _)) ?_
 rintro v1 w4 ⟨o1, k4⟩
 refine ⟨k4, ?_⟩
 have gl_o1 := hB.size
 have sb_b1_o1 := fun x hx => (show x ≠ b1 from by have h1 := (o1.blk x hx).1; have h2 := hb1.lt; omega)
 have sb_b2_o1 := fun x hx => (show x ≠ b2 from by have h1 := (o1.blk x hx).1; have h2 := hb2.lt; omega)
 replace hb1 := hb1.keep0 k4
 replace hb2 := hb2.keep0 k4
 replace hB := hB.trans k4
 have u_o1 := o1.blk
 refine pw_d [(7, _)] rfl rfl ⟨rfl, trivial⟩ rfl (d_call (vs := [_]) rfl (PencodeZ hq _)) ?_
 rintro v2 w5 ⟨o2, k5⟩
 refine ⟨k5, ?_⟩
 have gl_o2 := hB.size
 have sb_b1_o2 := fun x hx => (show x ≠ b1 from by have h1 := (o2.blk x hx).1; have h2 := hb1.lt; omega)
 have sb_b2_o2 := fun x hx => (show x ≠ b2 from by have h1 := (o2.blk x hx).1; have h2 := hb2.lt; omega)
 replace hb1 := hb1.keep0 k5
 replace hb2 := hb2.keep0 k5
 replace o1 := o1.keep0 k5
 replace hB := hB.trans k5
 have u_o2 := o2.blk
 refine pw_d [(6, _), (8, _)] rfl rfl ⟨rfl, rfl, trivial⟩ rfl (d_call (vs := [_, _]) rfl (equal_any _ _ (encB a.1 a.2) (encB b.1 b.2) _ o1.rd o2.rd)) ?_
 rintro _ w6 ⟨rfl, k6⟩
 refine ⟨k6, ?_⟩
 replace hb1 := hb1.keep0 k6
 replace hb2 := hb2.keep0 k6
 replace o1 := o1.keep0 k6
 replace o2 := o2.keep0 k6
 replace hB := hB.trans k6
 refine pw_nil ?_
 refine ow_g (g_as rfl) rfl (ow_nil (tw_ret1 hfin Try.results14 rfl ?_))
 exact ⟨rfl, hB⟩
end Go.Proofs.Ytkngeapegpehpaa.W
namespace Go.Proofs.Ytkngeapegpehpaa.W
open Go Go.Eng Go.Byt
set_option linter.unusedVariables false
set_option linter.unusedSimpArgs false
open Go.Fld Go.Ed
attribute [local irreducible] encB
set_option maxRecDepth 100000 in
set_option maxHeartbeats 1000000 in
theorem pbytes_any (v : Value) (xs : List UInt8) (w : World) (hv : RdB w v xs) (hx : xs.length ≤ 140737488351232) : Rets Try.prog 3 [v] w (fun r w' => r = .bool true ∧ Keep [] w w') := by
 have hB : Keep [] w w := Keep.refl _ _
 refine rets_of_tw Try.func3 rfl (by decide) Try.ntmps3 rfl (fun fin _ hfin => ?_)
 refine tw_seq (tw_region (ow_g (g_as rfl) rfl (ow_nil (tw_seq (tw_region (ow_g (g_mv rfl) rfl ?_))))))
 refine ow_d (d_call (vs := [_]) rfl (lent_any _ _ _ (by first | assumption | exact Own.rd ‹_› | exact Rd.keep0 ‹_› hB | exact Own.rd (Own.keep0 ‹_› hB)) hx)) rfl ?_
 rintro _ w1 ⟨u1, rfl, o1, k1⟩
 have gl_o1 := hB.size
 replace hB := hB.trans k1
 have u_o1 := o1.blk
 refine ow_g (g_as rfl) rfl (ow_nil (tw_seq (tw_region (ow_g (g_mv rfl) rfl (ow_d (d_call (vs := [_]) rfl (PdecodeA _ _ _ (lent_rd o1))) rfl ?_)))))
 rintro _ w2 ⟨hh1, rfl, E1, k2⟩
 replace o1 := o1.keep0 k2
 replace hB := hB.trans k2
 refine ow_g (g_mv rfl) rfl (ow_g (g_ext (vs := [_, _]) rfl rfl) rfl ?_)
 refine ow_g (g_ext (vs := [_, _]) rfl rfl) rfl ?_
 refine ow_d (d_alloc ty30) rfl ?_
 rintro _ w3 ⟨b1, rfl, eb1, hb1, k3, z1⟩
 have ge_b1 : w.heap.size ≤ b1 := by have := hB.size; omega
 have sb_b1_o1 := fun x hx => (show x ≠ b1 from by have := (o1.blk x hx).2; omega)
 replace o1 := o1.keep0 k3
 replace hB := hB.trans k3
 clear eb1 z1
 replace hb1 : Bk w3 b1 30 (iv .u64 20 (fun _ => 0)) := by rw [iv, ivF_rep]; exact hb1
 refine ow_d0 (d_stw (vs := iv .u64 20 hh1) ty30 rfl rfl rfl ivF_one hb1 rfl) ?_
 rintro _ w4 ⟨hb2, k4, z2⟩
 replace o1 := o1.keep k4 (fun x hx hm => sb_b1_o1 x hx (List.mem_singleton.1 hm))
 replace hB := hB.new k4 (fun x hx => .inl ((List.mem_singleton.1 hx) ▸ ge_b1))
 clear z2
 refine ow_g (g_as rfl) rfl (ow_nil (tw_seq (tw_region (ow_g (g_mv rfl) rfl (ow_d (d_call (vs := [_]) rfl (rdecodeA _ _ _ (by first | assumption | exact Own.rd ‹_› | exact Rd.keep0 ‹_› hB | exact Own.rd (Own.keep0 ‹_› hB)))) rfl ?_)))))
 rintro _ w5 ⟨hh2, rfl, E2, k5⟩
 replace o1 := o1.keep0 k5
 replace hb2 := hb2.keep0 k5
 replace hB := hB.trans k5
 refine ow_g (g_mv rfl) rfl (ow_g (g_ext (vs := [_, _]) rfl rfl) rfl ?_)
 refine ow_g (g_ext (vs := [_, _]) rfl rfl) rfl ?_
 refine ow_d (d_alloc ty38) rfl ?_
 rintro _ w6 ⟨b2, rfl, eb2, hb3, k6, z3⟩
 have ge_b2 : w.heap.size ≤ b2 := by have := hB.size; omega
 have sb_b2_o1 := fun x hx => (show x ≠ b2 from by have := (o1.blk x hx).2; omega)
 have ne_b1_b2 : b1 ≠ b2 := by have := hb2.lt; omega
 replace o1 := o1.keep0 k6
 replace hb2 := hb2.keep0 k6
 replace hB := hB.trans k6
 clear eb2 z3
 replace hb3 : Bk w6 b2 38 (iv .i64 64 (fun _ => 0)) := by rw [iv, ivF_rep]; exact hb3
 refine ow_d0 (d_stw (vs := iv .i64 64 hh2) ty38 rfl rfl rfl ivF_one hb3 rfl) ?_
 rintro _ w7 ⟨hb4, k7, z4⟩
 replace o1 := o1.keep k7 (fun x hx hm => sb_b2_o1 x hx (List.mem_singleton.1 hm))
 replace hb2 := hb2.keep k7 (fun hm => absurd (List.mem_singleton.1 hm) ne_b1_b2)
 replace hB := hB.new k7 (fun x hx => .inl ((List.mem_singleton.1 hx) ▸ ge_b2))
 clear z4
 refine ow_g (g_as rfl) rfl (ow_nil (tw_keep [(0, _), (3, _), (4, _), (5, _), (6, _), (7, _)] ⟨rfl, rfl, rfl, rfl, rfl, rfl, trivial⟩ ?_))
 refine tw_seq (tw_seq (tw_region (ow_g (g_mv rfl) rfl (ow_d (d_call (vs := [_]) rfl (num_k _ _)) rfl ?_))))
 rintro _ w8 ⟨rfl, k8⟩
 replace o1 := o1.keep0 k8
 replace hb2 := hb2.keep0 k8
 replace hb4 := hb4.keep0 k8
 replace hB := hB.trans k8
 refine ow_g (g_mv rfl) rfl (ow_g (g_ne rfl rfl) rfl ?_)
 refine ow_g (g_mv rfl) rfl (ow_gy (grdT rfl rfl rfl (decide_eq_false (fun h => h rfl))) (g_mv rfl) rfl ?_)
 refine ow_gy (grdT rfl rfl rfl (decide_eq_false (fun h => h rfl))) (g_mv rfl) rfl ?_
 refine ow_dy (grdT rfl rfl rfl (decide_eq_false (fun h => h rfl))) (d_call (vs := [_, _]) rfl (stays_any _ _ _ _ _ o1 (by first | assumption | exact Own.rd ‹_› | exact Rd.keep0 ‹_› hB | exact Own.rd (Own.keep0 ‹_› hB)) hx)) rfl ?_
 rintro _ w9 ⟨rfl, k9⟩
 replace o1 := o1.keep0 k9
 replace hb2 := hb2.keep0 k9
 replace hb4 := hb4.keep0 k9
 replace hB := hB.trans k9
 refine ow_gy (grdT rfl rfl rfl (decide_eq_false (fun h => h rfl))) (g_not rfl) rfl ?_
 refine ow_g (g_pickF rfl (decide_eq_false (fun h => h rfl)) rfl) rfl ?_
 refine ow_g (g_mv rfl) rfl (ow_dy (grdT rfl rfl rfl rfl) (d_call (vs := []) rfl (knows_any _)) rfl ?_)
 rintro _ w10 ⟨rfl, k10⟩
 replace o1 := o1.keep0 k10
 replace hb2 := hb2.keep0 k10
 replace hb4 := hb4.keep0 k10
 replace hB := hB.trans k10
 refine ow_gy (grdT rfl rfl rfl rfl) (g_not rfl) rfl ?_
 refine ow_g (g_pickF rfl rfl rfl) rfl ?_
 refine ow_nil (tw_keep [(0, _), (4, _), (6, _), (7, _), (33, _)] ⟨rfl, rfl, rfl, rfl, rfl, trivial⟩ ?_)
 refine tw_condF rfl (rfl) ?_
 refine tw_skip (tw_seq (tw_seq (tw_region (ow_g (g_mv rfl) rfl (ow_g (g_ne rfl rfl) rfl ?_)))))
 refine ow_nil (tw_if rfl (fun hc1 => ?_) (fun hc1 => ?_))
 ·
  refine tw_seq (tw_plan 2 [0, 1] [1] [] mixed [(4, _)] ⟨rfl, trivial⟩ (by decide +kernel) rfl (fun w11 k11 => ?_))
  replace o1 := o1.keep0 k11
  replace hb2 := hb2.keep0 k11
  replace hb4 := hb4.keep0 k11
  replace hB := hB.trans k11
  refine pw_g [(4, _)] rfl rfl ⟨rfl, trivial⟩ rfl (fun W' kk => g_ldab (cs' := iv .u64 20 hh1) ag30 ty30 rfl (Bk.keep0 hb2 kk) rfl rfl) ?_
  refine pw_d [] rfl rfl trivial rfl (d_call (vs := []) rfl (PzeroR _)) ?_
  rintro _ w12 ⟨hh3, rfl, E3, k12⟩
  refine ⟨k12, ?_⟩
  replace o1 := o1.keep0 k12
  replace hb2 := hb2.keep0 k12
  replace hb4 := hb4.keep0 k12
  replace hB := hB.trans k12
  refine pw_nil ?_
  refine ow_d (d_call (vs := [_, _]) rfl (PsameZ _ _ _ _ E1.2 (.inl E3) _)) rfl ?_
  rintro _ w13 ⟨rfl, k13⟩
  replace o1 := o1.keep0 k13
  replace hb2 := hb2.keep0 k13
  replace hb4 := hb4.keep0 k13
  replace hB := hB.trans k13
  refine ow_g (g_as rfl) rfl (ow_nil (tw_ret1 hfin Try.results3 rfl ?_))
  exact ⟨by rw [dcW_no hc1, decide_eq_true rfl], hB⟩
 ·
  refine tw_skip (tw_seq (tw_planA 14 [0, 3, 4, 1, 2, 5, 6, 7, 10, 11, 8, 9, 12, 13] [1, 8] [] [] mixed [(4, _), (0, _), (6, _)] ⟨rfl, rfl, rfl, trivial⟩ (by decide +kernel) (by decide) (by decide) ?_ (fun x hx => by cases hx) rfl (fun w14 k14 => ?_)))
  · intro q hq; cases hq
  replace o1 := o1.keep0 k14
  replace hb2 := hb2.keep0 k14
  replace hb4 := hb4.keep0 k14
  replace hB := hB.trans k14
  refine pa_g [(4, _)] rfl rfl ⟨rfl, trivial⟩ rfl (fun W' kk => g_ldab (cs' := iv .u64 20 hh1) ag30 ty30 rfl (Bk.keep0 hb2 kk) rfl rfl) ?_
  refine pa_g [(0, _)] rfl rfl ⟨rfl, trivial⟩ rfl (fun W' kk => g_mv rfl) ?_
  refine pa_g [(42, _)] rfl rfl ⟨rfl, trivial⟩ rfl (fun W' kk => g_str Try.underlying22 Try.underlying5 Try.underlying9 rfl (by first | exact Rd.keep0 ‹_› kk | exact Rd.keep0 (Own.rd ‹_›) kk | exact Rd.keep0 (Rd.keep0 ‹_› hB) kk | exact Rd.keep0 (Own.rd (Own.keep0 ‹_› hB)) kk)) ?_
  refine pa_d [(39, _)] rfl rfl ⟨rfl, trivial⟩ rfl (fun w16 k16 => ?_)
  replace o1 := o1.keep0 k16
  replace hb2 := hb2.keep0 k16
  replace hb4 := hb4.keep0 k16
  replace hB := hB.trans k16
  refine (d_call (vs := [_]) rfl (PencodeZ E1.2 _)).mono ?_
  rintro v1 w15 ⟨o2, k15⟩
  refine ⟨k15, (fun x hx => ⟨.inr (o2.blk x (o2.rd.cblk ▸ hx)).1, (o2.blk x (o2.rd.cblk ▸ hx)).2⟩), ?_⟩
  have gl_o2 := hB.size
  have sb_b1_o2 := fun x hx => (show x ≠ b1 from by have h1 := (o2.blk x hx).1; have h2 := hb2.lt; omega)
  have sb_b2_o2 := fun x hx => (show x ≠ b2 from by have h1 := (o2.blk x hx).1; have h2 := hb4.lt; omega)
  replace o1 := o1.keep0 k15
  replace hb2 := hb2.keep0 k15
  replace hb4 := hb4.keep0 k15
  replace hB := hB.trans k15
  have u_o2 := o2.blk
  refine pa_g [(40, _)] rfl rfl ⟨rfl, trivial⟩ rfl (fun W' kk => g_str Try.underlying22 Try.underlying5 Try.underlying9 rfl (by first | exact Rd.keep0 ‹_› kk | exact Rd.keep0 (Own.rd ‹_›) kk | exact Rd.keep0 (Rd.keep0 ‹_› hB) kk | exact Rd.keep0 (Own.rd (Own.keep0 ‹_› hB)) kk)) ?_
  refine pa_g [(41, _), (43, _)] rfl rfl ⟨rfl, rfl, trivial⟩ rfl (fun W' kk => g_eqs rfl rfl) ?_
  refine pa_g [(44, _)] rfl rfl ⟨rfl, trivial⟩ rfl (fun W' kk => g_mv rfl) ?_
  refine pa_gt [(6, _), (45, _)] rfl rfl ⟨rfl, rfl, trivial⟩ rfl (grdT rfl rfl rfl (decide_eq_true (dcW_enc (Decidable.of_not_not hc1)))) (fun W' kk => g_ldab (cs' := iv .i64 64 hh2) ag38 ty38 rfl (Bk.keep0 hb4 kk) rfl rfl) ?_
  refine pa_gt [(0, _), (45, _)] rfl rfl ⟨rfl, rfl, trivial⟩ rfl (grdT rfl rfl rfl (decide_eq_true (dcW_enc (Decidable.of_not_not hc1)))) (fun W' kk => g_mv rfl) ?_
  refine pa_gt [(45, _), (49, _)] rfl rfl ⟨rfl, rfl, trivial⟩ rfl (grdT rfl rfl rfl (decide_eq_true (dcW_enc (Decidable.of_not_not hc1)))) (fun W' kk => g_str Try.underlying22 Try.underlying5 Try.underlying9 rfl (by first | exact Rd.keep0 ‹_› kk | exact Rd.keep0 (Own.rd ‹_›) kk | exact Rd.keep0 (Rd.keep0 ‹_› hB) kk | exact Rd.keep0 (Own.rd (Own.keep0 ‹_› hB)) kk)) ?_
  refine pa_dt [(45, _), (46, _)] rfl rfl ⟨rfl, rfl, trivial⟩ rfl (grdT rfl rfl rfl (decide_eq_true (dcW_enc (Decidable.of_not_not hc1)))) (fun w18 k18 => ?_)
  replace o1 := o1.keep0 k18
  replace hb2 := hb2.keep0 k18
  replace hb4 := hb4.keep0 k18
  replace o2 := o2.keep0 k18
  replace hB := hB.trans k18
  refine (d_call (vs := [_]) rfl (rencodeR (E2 (Decidable.of_not_not hc1)) _)).mono ?_
  rintro v2 w17 ⟨o3, k17⟩
  refine ⟨k17, (fun x hx => ⟨.inr (o3.blk x (o3.rd.cblk ▸ hx)).1, (o3.blk x (o3.rd.cblk ▸ hx)).2⟩), ?_⟩
  have gl_o3 := hB.size
  have sb_b1_o3 := fun x hx => (show x ≠ b1 from by have h1 := (o3.blk x hx).1; have h2 := hb2.lt; omega)
  have sb_b2_o3 := fun x hx => (show x ≠ b2 from by have h1 := (o3.blk x hx).1; have h2 := hb4.lt; omega)
  replace o1 := o1.keep0 k17
  replace hb2 := hb2.keep0 k17
  replace hb4 := hb4.keep0 k17
  replace o2 := o2.keep0 k17
  replace hB := hB.trans k17
  have u_o3 := o3.blk
  refine pa_gt [(45, _), (47, _)] rfl rfl ⟨rfl, rfl, trivial⟩ rfl (grdT rfl rfl rfl (decide_eq_true (dcW_enc (Decidable.of_not_not hc1)))) (fun W' kk => g_str Try.underlying22 Try.underlying5 Try.underlying9 rfl (by first | exact Rd.keep0 ‹_› kk | exact Rd.keep0 (Own.rd ‹_›) kk | exact Rd.keep0 (Rd.keep0 ‹_› hB) kk | exact Rd.keep0 (Own.rd (Own.keep0 ‹_› hB)) kk)) ?_
  refine pa_gt [(45, _), (48, _), (50, _)] rfl rfl ⟨rfl, rfl, rfl, trivial⟩ rfl (grdT rfl rfl rfl (decide_eq_true (dcW_enc (Decidable.of_not_not hc1)))) (fun W' kk => g_eqs rfl rfl) ?_
  refine pa_g [(45, _), (51, _)] rfl rfl ⟨rfl, rfl, trivial⟩ rfl (fun W' kk => g_pickT rfl (decide_eq_true (dcW_enc (Decidable.of_not_not hc1))) rfl) ?_
  refine pa_nil (fun w19 k19 => ?_)
  replace o1 := o1.keep0 k19
  replace hb2 := hb2.keep0 k19
  replace hb4 := hb4.keep0 k19
  replace o2 := o2.keep0 k19
  replace o3 := o3.keep0 k19
  replace hB := hB.trans k19
  refine fina_nil ?_
  refine ow_g (g_as rfl) rfl (ow_nil (tw_keep [(2, _)] ⟨rfl, trivial⟩ ?_))
  refine tw_ret1 hfin Try.results3 rfl ?_
  exact ⟨by rw [decide_eq_true (dcW_enc (Decidable.of_not_not hc1))], hB⟩
end Go.Proofs.Ytkngeapegpehpaa.W
namespace Go.Eng
open Go Go.ChangeShapes Go.WideShapes Go.ChangeAt Go.RowKit
section
variable {H : Type} {enc : TypeId × Value → H} {P : Program} {w : World} {base : Nat} {held : Bool}
def Small (P : Program) (t : TypeId) (d : DataW H) : Prop := ∀ n ∈ d.weights P t, n ≤ reachBytes
theorem small_arg {ts : List TypeId} {ds : List (DataW H)} (h : (DataW.weightsEach P ts ds).all (· ≤ reachBytes) = true) {j : Nat} {t : TypeId} {d : DataW H} (ht : ts[j]? = some t) (hd : ds[j]? = some d) : Small P t d := by
  intro n hn
  have := List.all_eq_true.1 h n (DataW.weights_mem_each ht hd n hn)
  simpa using this
theorem small_len {t e : TypeId} {elems spare : List (DataW H)} (hu : P.underlying t = some (.slice e)) (h : Small P t (.slice elems spare)) : (elems.length + spare.length) * P.bytesOf e ≤ reachBytes := by
  refine h _ ?_
  simp [DataW.weights, hu]
theorem read_bytes' {t e : TypeId} {fuel : Nat} {cs : List Value} {y : DataW H × List MemPlace} (ht : P.underlying t = some (.slice e)) (he : P.underlying e = some (.int .u8)) (hc : P.cellsOf e = 1) (hb : P.bytesOf e = 1)
    (h : DataW.trod enc P w base (fun _ => true) held fuel t cs = some y) (hs : Small P t y.1) : ∃ v xs, cs = [v] ∧ RdB w v xs ∧ xs.length ≤ 140737488351232 := by
  rcases open_ints ht he hc h with ⟨rfl, rfl⟩ | ⟨a, len, cap, zs, rfl, _, hl, hm, hz, hy, hcell, hwz⟩
  · exact ⟨_, [], rfl, Rd.nil _ _, by decide⟩
  · simp only [if_true] at hz
    have hr : reachBytes ≤ 140737488351232 := by decide
    rw [hy] at hs
    have h9 := small_len ht hs
    rw [hb] at h9
    simp only [lits, List.length_map, List.length_take, List.length_drop] at h9
    have hbv : bv ((zs.take len).map fun n => UInt8.ofNat n.toNat) = (zs.take len).map fun n => Value.int .u8 n := by
      simp only [bv, List.map_map]
      apply List.map_congr_left
      intro n hn
      have h1 := hwz n (List.mem_of_mem_take hn)
      have e1 : IntKind.u8.min = 0 := by decide
      have e2 : IntKind.u8.max = 255 := by decide
      simp only [Lit.wf, e1, e2, Bool.and_eq_true, decide_eq_true_eq] at h1
      simp only [Function.comp, UInt8.toNat_ofNat']
      congr 1; omega
    refine ⟨_, (zs.take len).map fun n => UInt8.ofNat n.toNat, rfl, ⟨some a, cap, ?_, ?_, hm, by simp, (fun h => by cases h), ?_⟩, by simp only [List.length_map, List.length_take]; omega⟩
    · congr 1; simp only [List.length_map, List.length_take]; omega
    · simp only [List.length_map, List.length_take]; omega
    · intro a' ha
      cases ha
      rw [hbv]
      intro j u hj
      rw [List.getElem?_map, List.getElem?_take] at hj
      by_cases hjl : j < len
      · rw [if_pos hjl] at hj
        have hjz : j < zs.length := by omega
        rw [List.getElem?_eq_getElem hjz] at hj
        simp only [Option.map_some, Option.some.injEq] at hj
        rw [hcell j hjz, ← hj, List.getD_eq_getElem?_getD, List.getElem?_eq_getElem hjz]; rfl
      · rw [if_neg hjl] at hj; cases hj
theorem trod_below {t : TypeId} {v : Value} {d : DataW H} {ps : List MemPlace} {sp : Nat → Bool} (h : DataW.Trod enc P w base sp held t v d ps) : ∀ x ∈ ps, x.block < w.heap.size := by
  obtain ⟨m, hm⟩ := h; exact DataW.trod_lt m _ _ _ hm
end
end Go.Eng
