import Derived.Test.YtkngeapegpehpaaPtd
namespace Go.Proofs.Ytkngeapegpehpaa.W
open Go Go.Eng Go.Byt
set_option linter.unusedVariables false
set_option linter.unusedSimpArgs false
open Go.Fld Go.Ed
theorem bv_setB {xs : List UInt8} {i : Nat} {b : Int} (h : In b 0 255) : (bv xs).set i (.int .u8 b) = bv (xs.set i (UInt8.ofNat b.toNat)) := by
  unfold In at h
  have e : (((UInt8.ofNat b.toNat).toNat : Nat) : Int) = b := by simp; omega
  unfold bv
  rw [List.map_set, e]
def encB (x y : Fp) : List UInt8 := (fpB y).set 31 (UInt8.ofNat (bits .or .u8 (gb (fpB y) 31) (IntKind.u8.wrap (gb (fpB x) 0 * 128))).toNat)
set_option maxRecDepth 100000 in
set_option maxHeartbeats 1000000 in
theorem Pencode_any (p : Nat → Int) (X Y Z T : Fp) (hp : PtEl p X Y Z T) (hz : Z ≠ 0) (w : World) : Rets Try.prog 16 [.agg (iv .u64 20 p).toArray] w (fun v w' => OwnB w' w.heap.size v (encB (X * inv Z) (Y * inv Z)) ∧ Keep [] w w') := by
  have hB : Keep [] w w := Keep.refl _ _
  refine rets_of_tw Try.func16 rfl (by decide) Try.ntmps16 rfl (fun fin _ hfin => ?_)
  refine tw_seq ?_
  refine tw_region ?_
  refine ow_d (d_box (cs := [.int .u64 (p 0), .int .u64 (p 1), .int .u64 (p 2), .int .u64 (p 3), .int .u64 (p 4), .int .u64 (p 5), .int .u64 (p 6), .int .u64 (p 7), .int .u64 (p 8), .int .u64 (p 9), .int .u64 (p 10), .int .u64 (p 11), .int .u64 (p 12), .int .u64 (p 13), .int .u64 (p 14), .int .u64 (p 15), .int .u64 (p 16), .int .u64 (p 17), .int .u64 (p 18), .int .u64 (p 19)]) rfl rfl) rfl ?_
  rintro _ w1 ⟨b1, rfl, eb1, hb1, k1, z1⟩
  have ge_b1 : w.heap.size ≤ b1 := by have := hB.size; omega
  replace hB := hB.trans k1
  clear eb1 z1
  refine ow_g (g_as rfl) rfl ?_
  refine ow_nil ?_
  refine tw_keep [(1, _)] ⟨rfl, trivial⟩ ?_
  refine tw_seq ?_
  refine tw_region ?_
  refine ow_g (g_ldab (cs' := [_, _, _, _, _, _, _, _, _, _, _, _, _, _, _, _, _, _, _, _]) ag30 ty30 rfl hb1 rfl rfl) rfl ?_
  refine ow_d (d_call (vs := [_]) rfl (full_any _ _ _ _ _ ⟨hp.1, hp.2.1, hp.2.2.1, hp.2.2.2⟩ hz _)) rfl ?_
  rintro _ w2 ⟨hh1, rfl, E1, k2⟩
  replace hb1 := hb1.keep0 k2
  replace hB := hB.trans k2
  refine ow_d0 (d_sta ty30 rfl rfl rfl ivF_one hb1 rfl) ?_
  rintro _ w3 ⟨hb2, k3, z2⟩
  replace hB := hB.new k3 (fun x hx => .inl ((List.mem_singleton.1 hx) ▸ ge_b1))
  clear z2
  replace hb2 : Bk w3 b1 _ [.int .u64 (hh1 0), .int .u64 (hh1 1), .int .u64 (hh1 2), .int .u64 (hh1 3), .int .u64 (hh1 4), .int .u64 (hh1 5), .int .u64 (hh1 6), .int .u64 (hh1 7), .int .u64 (hh1 8), .int .u64 (hh1 9), .int .u64 (hh1 10), .int .u64 (hh1 11), .int .u64 (hh1 12), .int .u64 (hh1 13), .int .u64 (hh1 14), .int .u64 (hh1 15), .int .u64 (hh1 16), .int .u64 (hh1 17), .int .u64 (hh1 18), .int .u64 (hh1 19)] := hb2
  refine ow_nil ?_
  refine tw_keep [(1, _)] ⟨rfl, trivial⟩ ?_
  refine tw_seq ?_
  refine tw_region ?_
  refine ow_g (g_fa Try.underlying30 rfl ty28 (by decide) rfl) rfl ?_
  refine ow_g (g_ldab (cs' := [_, _, _, _, _]) ag28 ty28 rfl hb2 rfl rfl) rfl ?_
  refine ow_d (d_call (vs := [_]) rfl (ninverse_any _ _ E1.2.2.1 _)) rfl ?_
  rintro _ w4 ⟨hh2, rfl, E2, k4⟩
  replace hb2 := hb2.keep0 k4
  replace hB := hB.trans k4
  refine ow_d (d_alloc ty28) rfl ?_
  rintro _ w5 ⟨b2, rfl, eb2, hb3, k5, z3⟩
  have ge_b2 : w.heap.size ≤ b2 := by have := hB.size; omega
  have ne_b1_b2 : b1 ≠ b2 := by have := hb2.lt; omega
  replace hb2 := hb2.keep0 k5
  replace hB := hB.trans k5
  clear eb2 z3
  refine ow_d0 (d_sta ty28 rfl rfl rfl ivF_one hb3 rfl) ?_
  rintro _ w6 ⟨hb4, k6, z4⟩
  replace hb2 := hb2.keep k6 (fun hm => absurd (List.mem_singleton.1 hm) ne_b1_b2)
  replace hB := hB.new k6 (fun x hx => .inl ((List.mem_singleton.1 hx) ▸ ge_b2))
  clear z4
  replace hb4 : Bk w6 b2 _ [.int .u64 (hh2 0), .int .u64 (hh2 1), .int .u64 (hh2 2), .int .u64 (hh2 3), .int .u64 (hh2 4)] := hb4
  refine ow_nil ?_
  refine tw_keep [(1, _), (3, _)] ⟨rfl, rfl, trivial⟩ ?_
  refine tw_seq ?_
  refine tw_region ?_
  refine ow_g (g_fa Try.underlying30 rfl ty28 (by decide) rfl) rfl ?_
  refine ow_g (g_ldab (cs' := [_, _, _, _, _]) ag28 ty28 rfl hb2 rfl rfl) rfl ?_
  refine ow_g (g_ldab (cs' := [_, _, _, _, _]) ag28 ty28 rfl hb4 rfl rfl) rfl ?_
  refine ow_d (d_call (vs := [_, _]) rfl (ntimes_any _ _ _ _ E1.2.1 E2 _)) rfl ?_
  rintro _ w7 ⟨hh3, rfl, E3, k7⟩
  replace hb2 := hb2.keep0 k7
  replace hb4 := hb4.keep0 k7
  replace hB := hB.trans k7
  refine ow_d (d_call (vs := [_]) rfl (nbytes_any _ _ E3 _)) rfl ?_
  rintro v1 w8 ⟨o1, k8⟩
  have gl_o1 := hB.size
  have sb_b1_o1 := fun x hx => (show x ≠ b1 from by have h1 := (o1.blk x hx).1; have h2 := hb2.lt; omega)
  have sb_b2_o1 := fun x hx => (show x ≠ b2 from by have h1 := (o1.blk x hx).1; have h2 := hb4.lt; omega)
  replace hb2 := hb2.keep0 k8
  replace hb4 := hb4.keep0 k8
  replace hB := hB.trans k8
  have u_o1 := o1.blk
  have lnv1 := fpB_length (Y * (inv Z))
  refine ow_g (g_as rfl) rfl ?_
  refine ow_nil ?_
  refine tw_keep [(1, _), (3, _), (4, _)] ⟨rfl, rfl, rfl, trivial⟩ ?_
  refine tw_seq ?_
  refine tw_plan 12 [0, 1, 2, 3, 4, 5, 6, 7, 8, 9, 10, 11] [6, 7] [] mixed [(4, _), (1, _), (3, _)] ⟨rfl, rfl, rfl, trivial⟩ (by decide +kernel) rfl (fun w9 k9 => ?_)
  replace hb2 := hb2.keep0 k9
  replace hb4 := hb4.keep0 k9
  replace o1 := o1.keep0 k9
  replace hB := hB.trans k9
  refine pw_g [(4, _)] rfl rfl ⟨rfl, trivial⟩ rfl (fun W' kk => g_mv rfl) ?_
  refine pw_g [(15, _)] rfl rfl ⟨rfl, trivial⟩ rfl (fun W' kk => g_ix Try.underlying22 ty5 rfl (by first | exact Rd.keep0 (by assumption) kk | exact Rd.keep0 (Own.rd (by assumption)) kk | exact Rd.keep0 (Rd.keep0 (by assumption) hB) kk | exact Rd.keep0 (Own.rd (Own.keep0 (by assumption) hB)) kk) rfl (by omega)) ?_
  refine pw_g [(16, _)] rfl rfl ⟨rfl, trivial⟩ rfl (fun W' kk => g_ldB sc5 rfl (by first | exact Rd.keep0 (by assumption) kk | exact Rd.keep0 (Own.rd (by assumption)) kk | exact Rd.keep0 (Rd.keep0 (by assumption) hB) kk | exact Rd.keep0 (Own.rd (Own.keep0 (by assumption) hB)) kk) (by omega)) ?_
  refine pw_g [(1, _)] rfl rfl ⟨rfl, trivial⟩ rfl (fun W' kk => g_fa Try.underlying30 rfl ty28 (by decide) rfl) ?_
  refine pw_g [(18, _)] rfl rfl ⟨rfl, trivial⟩ rfl (fun W' kk => g_ldab (cs' := [_, _, _, _, _]) ag28 ty28 rfl (Bk.keep0 hb2 kk) rfl rfl) ?_
  refine pw_g [(3, _)] rfl rfl ⟨rfl, trivial⟩ rfl (fun W' kk => g_ldab (cs' := [_, _, _, _, _]) ag28 ty28 rfl (Bk.keep0 hb4 kk) rfl rfl) ?_
  refine pw_d [(19, _), (20, _)] rfl rfl ⟨rfl, rfl, trivial⟩ rfl (d_call (vs := [_, _]) rfl (ntimes_any _ _ _ _ E1.1 E2 _)) ?_
  rintro _ w10 ⟨hh4, rfl, E4, k10⟩
  refine ⟨k10, ?_⟩
  replace hb2 := hb2.keep0 k10
  replace hb4 := hb4.keep0 k10
  replace o1 := o1.keep0 k10
  replace hB := hB.trans k10
  refine pw_d [(21, _)] rfl rfl ⟨rfl, trivial⟩ rfl (d_call (vs := [_]) rfl (nbytes_any _ _ E4 _)) ?_
  rintro v2 w11 ⟨o2, k11⟩
  refine ⟨k11, ?_⟩
  have gl_o2 := hB.size
  have sb_b1_o2 := fun x hx => (show x ≠ b1 from by have h1 := (o2.blk x hx).1; have h2 := hb2.lt; omega)
  have sb_b2_o2 := fun x hx => (show x ≠ b2 from by have h1 := (o2.blk x hx).1; have h2 := hb4.lt; omega)
  replace hb2 := hb2.keep0 k11
  replace hb4 := hb4.keep0 k11
  replace o1 := o1.keep0 k11
  replace hB := hB.trans k11
  have u_o2 := o2.blk
  have lnv2 := fpB_length (X * (inv Z))
  refine pw_g [(22, _)] rfl rfl ⟨rfl, trivial⟩ rfl (fun W' kk => g_ix Try.underlying22 ty5 rfl (by first | exact Rd.keep0 (by assumption) kk | exact Rd.keep0 (Own.rd (by assumption)) kk | exact Rd.keep0 (Rd.keep0 (by assumption) hB) kk | exact Rd.keep0 (Own.rd (Own.keep0 (by assumption) hB)) kk) rfl (by omega)) ?_
  refine pw_g [(23, _)] rfl rfl ⟨rfl, trivial⟩ rfl (fun W' kk => g_ldB sc5 rfl (by first | exact Rd.keep0 (by assumption) kk | exact Rd.keep0 (Own.rd (by assumption)) kk | exact Rd.keep0 (Rd.keep0 (by assumption) hB) kk | exact Rd.keep0 (Own.rd (Own.keep0 (by assumption) hB)) kk) (by omega)) ?_
  refine pw_g [(24, _)] rfl rfl ⟨rfl, trivial⟩ rfl (fun W' kk => g_shlc (m := 128) rfl rfl (by decide) (by decide)) ?_
  refine pw_g [(17, _), (25, _)] rfl rfl ⟨rfl, rfl, trivial⟩ rfl (fun W' kk => g_or rfl rfl) ?_
  refine pw_nil ?_
  refine ow_g (g_ix Try.underlying22 ty5 rfl (by first | assumption | exact Own.rd (by assumption) | exact Rd.keep0 (by assumption) hB | exact Own.rd (Own.keep0 (by assumption) hB)) rfl (by omega)) rfl ?_
  refine ow_d0 (d_sto (u := .int .u8 _) ty5 rfl rfl rfl o1 (by rw [bv_length, fpB_length]; decide)) ?_
  rintro _ w99 ⟨ow2, k99, z99⟩
  replace hB := hB.new k99 (fun x hx => .inl (Nat.le_trans gl_o1 (o1.blk x hx).1))
  rw [bv_setB (or_in (k := .u8) rfl rfl)] at ow2
  refine ow_nil ?_
  refine tw_keep [(4, _)] ⟨rfl, trivial⟩ ?_
  refine tw_seq ?_
  refine tw_region ?_
  refine ow_g (g_mv rfl) rfl ?_
  refine ow_g (g_as rfl) rfl ?_
  refine ow_nil ?_
  refine tw_keep [(2, _)] ⟨rfl, trivial⟩ ?_
  refine tw_ret1 hfin Try.results16 rfl ?_
  exact ⟨(by unfold OwnB encB; rw [List.length_set]; exact ow2.lo gl_o1), hB⟩

end Go.Proofs.Ytkngeapegpehpaa.W
