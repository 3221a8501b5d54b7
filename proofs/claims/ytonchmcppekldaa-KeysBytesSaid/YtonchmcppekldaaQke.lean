/- Contracts and laws, part 5 of 6: what each function of the program and of the reference computes, shown once. -/
import Derived.Maps.RangeRun
import Derived.Test.YtonchmcppekldaaQkd
namespace Go.Proofs.Ytonchmcppekldaa.W
open Go Go.Eng Go.Byt
set_option linter.unusedVariables false
set_option linter.unusedSimpArgs false
theorem gpR_len (v : List UInt8) : (gpR v).init.length ≤ 64 ∧ (gpR v).leaf.enc.length ≤ 64 ∧ (gpR v).leaf.sig.length ≤ 64 ∧ (gpR v).leaf.name.length ≤ 64 ∧ (gpR v).leaf.hash.length ≤ 64 ∧ (gpR v).leaf.sg.length ≤ 64 ∧ (gpR v).sg.length ≤ 64 := by
  unfold gpR
  cases h : gpOk v with
  | false => simp only [cond_false]; exact ⟨by decide, by decide, by decide, by decide, by decide, by decide, by decide⟩
  | true =>
    unfold gpOk at h
    obtain ⟨n1, n2, hlo⟩ := pkOk_len (Bool.and_eq_true_iff.1 (Bool.and_eq_true_iff.1 h).1).2
    obtain ⟨m1, m2, m3, m4, m5, _, _⟩ := leafOk_len hlo
    exact ⟨n1, m1, m2, m3, m4, m5, n2⟩
theorem glR_len (v : List UInt8) : (glR v).enc.length ≤ 64 ∧ (glR v).sig.length ≤ 64 ∧ (glR v).name.length ≤ 64 ∧ (glR v).hash.length ≤ 64 ∧ (glR v).sg.length ≤ 64 := by
  unfold glR
  cases h : glOk v with
  | false => simp only [cond_false]; exact ⟨by decide, by decide, by decide, by decide, by decide⟩
  | true =>
    unfold glOk at h
    obtain ⟨m1, m2, m3, m4, m5, _, _⟩ := leafOk_len (Bool.and_eq_true_iff.1 (Bool.and_eq_true_iff.1 h).1).2
    exact ⟨m1, m2, m3, m4, m5⟩
theorem rrnum4_any (p : Nat) (rest : List UInt8) (e : Int) (w : World) (h : RdR w p rest e) : Rets Try.prog 43 [.pointer (some ⟨p, 0, none⟩), .int .i64 4] w (fun v w' => v = .int .i64 (rNum 32 rest e 4).1 ∧ RdR w' p (rNum 32 rest e 4).2.1 (rNum 32 rest e 4).2.2 ∧ Keep [p] w w') := by
  refine (rrnumber_any p rest e 4 w h (by decide)).mono ?_
  rintro v w' ⟨r, hr, h1, h2, h3⟩
  rw [show bitsOf 4 = 32 from by decide] at hr; subst hr; exact ⟨h1, h2, h3⟩
theorem kg_b (a b : Int) (o : Bool) : (decide (a = 0) && decide (b = 0) && o) = !(decide (a ≠ 0) || decide (b ≠ 0) || !o) := by
  by_cases h1 : a = 0 <;> by_cases h2 : b = 0 <;> cases o <;> simp [h1, h2]
set_option maxRecDepth 100000 in
set_option maxHeartbeats 1000000 in
theorem rget20_any (v : Value) (c : List UInt8) (w : World) (hv : RdB w v c) (hc : c.length ≤ 140737488351232) : Rets Try.prog 10 [v] w (fun r w' => ∃ i e s n h g gg e2 s2 n2 h2 g2 y1 y2 y3, r = .tuple #[.agg [.int .i64 (kgR c).kind, i, e, s, n, .int .i64 (kgR c).pk.leaf.src, h, g, gg, e2, s2, n2, .int .i64 (kgR c).lf.src, h2, g2, .int .i64 (kgR c).ix, y1, y2, y3].toArray, .int .i64 (kgE c)] ∧ OwnB w' w.heap.size i (kgR c).pk.init ∧ OwnB w' w.heap.size e (kgR c).pk.leaf.enc ∧ OwnB w' w.heap.size s (kgR c).pk.leaf.sig ∧ OwnB w' w.heap.size n (kgR c).pk.leaf.name ∧ OwnB w' w.heap.size h (kgR c).pk.leaf.hash ∧ OwnB w' w.heap.size g (kgR c).pk.leaf.sg ∧ OwnB w' w.heap.size gg (kgR c).pk.sg ∧ OwnB w' w.heap.size e2 (kgR c).lf.enc ∧ OwnB w' w.heap.size s2 (kgR c).lf.sig ∧ OwnB w' w.heap.size n2 (kgR c).lf.name ∧ OwnB w' w.heap.size h2 (kgR c).lf.hash ∧ OwnB w' w.heap.size g2 (kgR c).lf.sg ∧ OwnB w' w.heap.size y1 (kgR c).psk ∧ OwnB w' w.heap.size y2 (kgR c).nonce ∧ OwnB w' w.heap.size y3 (kgR c).enc ∧ Keep [] w w') := by
 have hB : Keep [] w w := Keep.refl _ _
 have hlV : (kyV c).1.length ≤ 140737488351232 := by have : (kyV c).1.length ≤ 65536 := rVec_out _ _; omega
 have hlW : (kyW c).1.length ≤ 140737488351232 := by have : (kyW c).1.length ≤ 65536 := rVec_out _ _; omega
 obtain ⟨z1, z2, z3, z4⟩ := ky_len c
 have gm := gpR_len (kyV c).1; have lm := glR_len (kyV c).1
 refine rets_of_tw Try.func10 rfl (by decide) Try.ntmps10 rfl (fun fin _ hfin => ?_)
 refine tw_seq (tw_region (ow_d (d_alloc ty28) rfl ?_))
 rintro _ w1 ⟨b1, rfl, eb1, hb1, k1, z1⟩
 have ge_b1 : w.heap.size ≤ b1 := by have := hB.size; omega
 replace hB := hB.trans k1
 clear eb1 z1
 refine ow_g (g_as rfl) rfl (ow_nil (tw_seq (tw_region (ow_g (g_mv rfl) rfl ?_))))
 have zb1 := hb1.lt
 have hs8 := hB.size
 refine ow_d (d_call (vs := [_]) rfl (rnewL_any _ c _ (hv.keep0 hB) (by omega))) rfl ?_
 rintro _ w2 ⟨p1, rfl, rr, k2⟩
 replace hb1 := hb1.keep0 k2
 replace hB := hB.trans k2
 have gp1 := rr.1
 replace rr := rr.rdr
 have hp1 : b1 < p1 := by omega
 refine ow_g (g_as rfl) rfl (ow_nil (tw_seq (tw_region (ow_g (g_mv rfl) rfl ?_))))
 have lv_km1 := rr.lt
 refine ow_d (d_call (vs := [_, _]) rfl (rrnum2_any p1 c 0 _ rr)) rfl ?_
 rintro _ w3 ⟨rfl, rr, km1⟩
 have z_km1 := km1.size
 replace hb1 := hb1.keep km1 (fun hm => by have h9 := List.mem_singleton.1 hm; omega)
 replace hB := hB.new km1 (fun x hm => .inl (by have h9 := List.mem_singleton.1 hm; omega))
 have rr : RdR w3 p1 (kyA c).2.1 (kyA c).2.2 := rr
 show OW _ _ _ _ _ _ ((10, .int .i64 (kyA c).1) :: _) _
 refine ow_g (g_bld (idx := [0]) (xs := [.tmp 10]) (vs := [_]) (css := [[_]]) (out := [_, _, _, _, _, _, _, _, _, _, _, _, _, _, _, _, _, _, _]) pl28 ty28 rfl rfl ⟨rfl, trivial⟩ rfl rfl) rfl ?_
 have lr5 := rr.lt
 refine ow_d (d_alloc ty28) rfl ?_
 rintro _ w4 ⟨b2, rfl, eb2, hb2, k3, z2⟩
 have rlt5 : p1 < b2 := by omega
 have ebk := eb2
 have ge_b2 : w.heap.size ≤ b2 := by have := hB.size; omega
 have ne_b1_b2 : b1 ≠ b2 := by have := hb1.lt; omega
 replace hb1 := hb1.keep0 k3
 replace rr := rr.keep0 k3
 replace hB := hB.trans k3
 clear eb2 z2
 refine ow_d0 (d_sta ty28 rfl rfl rfl (by simp only [List.forall_mem_cons]; refine ⟨rfl, rfl, rfl, rfl, rfl, rfl, rfl, rfl, rfl, rfl, rfl, rfl, rfl, rfl, rfl, rfl, rfl, rfl, rfl, fun v hv => by cases hv⟩) hb2 rfl) ?_
 rintro _ w5 ⟨hb3, k4, z3⟩
 replace hb1 := hb1.keep k4 (fun hm => absurd (List.mem_singleton.1 hm) ne_b1_b2)
 replace rr := rr.keep k4 (fun x hx hm => (fun x (hx : x ≤ p1) => (show x ≠ b2 from by omega)) x hx (List.mem_singleton.1 hm))
 replace hB := hB.new k4 (fun x hx => .inl ((List.mem_singleton.1 hx) ▸ ge_b2))
 clear z3
 replace hb3 : Bk w5 b2 _ [.int .i64 (kyA c).1, .slice none 0 0, .slice none 0 0, .slice none 0 0, .slice none 0 0, .int .i64 0, .slice none 0 0, .slice none 0 0, .slice none 0 0, .slice none 0 0, .slice none 0 0, .slice none 0 0, .int .i64 0, .slice none 0 0, .slice none 0 0, .int .i64 0, .slice none 0 0, .slice none 0 0, .slice none 0 0] := hb3
 refine ow_nil (tw_seq (tw_region (ow_g (g_as rfl) rfl (ow_nil (tw_seq (tw_seq ?_))))))
 refine tw_region (ow_g (g_fa Try.underlying28 rfl ty3 (by decide) rfl) rfl ?_)
 refine ow_g (g_ldb sc3 rfl hb3 rfl) rfl ?_
 refine ow_nil (tw_block (tw_seq (tw_region (ow_g (g_eq rfl rfl) rfl ?_))))
 refine ow_g (g_as rfl) rfl (ow_nil (tw_if rfl (fun hc1 => ?_) (fun hc1 => ?_)))
 ·
  refine tw_region (ow_g (g_mv rfl) rfl ?_)
  have lv_km2 := rr.lt
  have gw_o1 := hB.size
  have lb_o1_b1 := hb1.lt
  have lb_o1_b2 := hb3.lt
  refine ow_d (d_call (vs := [_]) rfl (rvector_any p1 (kyA c).2.1 (kyA c).2.2 _ rr)) rfl ?_
  rintro v1 w6 ⟨_, rfl, o1, rr, km2⟩
  have gl_o1 := hB.size
  have sb_b1_o1 := fun x hx => (show x ≠ b1 from by have h1 := (o1.blk x hx).1; have h2 := hb1.lt; omega)
  have sb_b2_o1 := fun x hx => (show x ≠ b2 from by have h1 := (o1.blk x hx).1; have h2 := hb3.lt; omega)
  have z_km2 := km2.size
  replace hb1 := hb1.keep km2 (fun hm => by have h9 := List.mem_singleton.1 hm; omega)
  replace hb3 := hb3.keep km2 (fun hm => by have h9 := List.mem_singleton.1 hm; omega)
  replace hB := hB.new km2 (fun x hm => .inl (by have h9 := List.mem_singleton.1 hm; omega))
  have rr : RdR w6 p1 (kyV c).2.1 (kyV c).2.2 := rr
  replace o1 : OwnB w6 w5.heap.size v1 (kyV c).1 := o1
  have u_o1 := o1.blk
  have lc_b1 := hb1.lt
  have lc_b2 := hb3.lt
  have gwQ := hB.size
  have lcr := rr.lt
  refine ow_d (d_call (vs := [_]) rfl (rgetPk_any _ (kyV c).1 _ o1.rd hlV)) rfl ?_
  rintro _ w7 ⟨q0, q1, q2, q3, q4, q5, q6, rfl, o70, o71, o72, o73, o74, o75, o76, k5⟩
  replace hb1 := hb1.keep0 k5
  replace rr := rr.keep0 k5
  replace hb3 := hb3.keep0 k5
  replace o1 := o1.keep0 k5
  replace hB := hB.trans k5
  have u_o70 := o70.blk
  have u_o71 := o71.blk
  have u_o72 := o72.blk
  have u_o73 := o73.blk
  have u_o74 := o74.blk
  have u_o75 := o75.blk
  have u_o76 := o76.blk
  refine ow_g (g_mv rfl) rfl (ow_g (g_ext (vs := [_, _]) rfl rfl) rfl ?_)
  refine ow_g (g_ext (vs := [_, _]) rfl rfl) rfl ?_
  refine ow_g (g_fa Try.underlying28 rfl ty26 (by decide) rfl) rfl ?_
  refine ow_d0 (d_sta ty26 rfl rfl rfl (by simp only [List.forall_mem_cons]; exact ⟨(Own.rd o70).one, (Own.rd o71).one, (Own.rd o72).one, (Own.rd o73).one, rfl, (Own.rd o74).one, (Own.rd o75).one, (Own.rd o76).one, fun v hv => by cases hv⟩) hb3 rfl) ?_
  rintro _ w8 ⟨hb4, k6, z4⟩
  replace hb1 := hb1.keep k6 (fun hm => absurd (List.mem_singleton.1 hm) ne_b1_b2)
  replace rr := rr.keep k6 (fun x hx hm => (fun x (hx : x ≤ p1) => (show x ≠ b2 from by omega)) x hx (List.mem_singleton.1 hm))
  replace o1 := o1.keep k6 (fun x hx hm => sb_b2_o1 x hx (List.mem_singleton.1 hm))
  replace o70 := o70.keep k6 (fun x hx hm => (fun x hx => (show x ≠ b2 from by have := (o70.blk x hx).1; omega)) x hx (List.mem_singleton.1 hm))
  replace o71 := o71.keep k6 (fun x hx hm => (fun x hx => (show x ≠ b2 from by have := (o71.blk x hx).1; omega)) x hx (List.mem_singleton.1 hm))
  replace o72 := o72.keep k6 (fun x hx hm => (fun x hx => (show x ≠ b2 from by have := (o72.blk x hx).1; omega)) x hx (List.mem_singleton.1 hm))
  replace o73 := o73.keep k6 (fun x hx hm => (fun x hx => (show x ≠ b2 from by have := (o73.blk x hx).1; omega)) x hx (List.mem_singleton.1 hm))
  replace o74 := o74.keep k6 (fun x hx hm => (fun x hx => (show x ≠ b2 from by have := (o74.blk x hx).1; omega)) x hx (List.mem_singleton.1 hm))
  replace o75 := o75.keep k6 (fun x hx hm => (fun x hx => (show x ≠ b2 from by have := (o75.blk x hx).1; omega)) x hx (List.mem_singleton.1 hm))
  replace o76 := o76.keep k6 (fun x hx hm => (fun x hx => (show x ≠ b2 from by have := (o76.blk x hx).1; omega)) x hx (List.mem_singleton.1 hm))
  replace hB := hB.new k6 (fun x hx => .inl ((List.mem_singleton.1 hx) ▸ ge_b2))
  clear z4
  replace hb4 : Bk w8 b2 _ [.int .i64 (kyA c).1, q0, q1, q2, q3, .int .i64 (gpR (kyV c).1).leaf.src, q4, q5, q6, .slice none 0 0, .slice none 0 0, .slice none 0 0, .int .i64 0, .slice none 0 0, .slice none 0 0, .int .i64 0, .slice none 0 0, .slice none 0 0, .slice none 0 0] := hb4
  refine ow_g (g_as rfl) rfl (ow_nil (tw_keep [(2, _), (4, _), (5, _), (6, _)] ⟨rfl, rfl, rfl, rfl, trivial⟩ ?_))
  refine tw_b (tw_seq (tw_seq (tw_region (ow_g (g_mv rfl) rfl (ow_g (g_ne rfl rfl) rfl ?_)))))
  refine ow_g (g_mv rfl) rfl (ow_grp 52 false rfl (fun c1 hgc1 => ?_))
  refine ow_gg [(4, _)] (grd1 rfl rfl rfl hgc1) ⟨und0 rfl, trivial⟩ (fun hw1 => g_mv rfl) rfl ?_
  refine ow_gdk [(53, _)] (grd1 rfl rfl rfl hgc1) ⟨und1 rfl, trivial⟩ (fun hw2 => d_call (vs := [_]) rfl (rrend_any _ _ _ _ rr)) rfl ?_
  rintro w10 k8
  replace hb1 := hb1.keep0 k8
  replace rr := rr.keep0 k8
  replace o1 := o1.keep0 k8
  replace o70 := o70.keep0 k8
  replace o71 := o71.keep0 k8
  replace o72 := o72.keep0 k8
  replace o73 := o73.keep0 k8
  replace o74 := o74.keep0 k8
  replace o75 := o75.keep0 k8
  replace o76 := o76.keep0 k8
  replace hb4 := hb4.keep0 k8
  replace hB := hB.trans k8
  refine ow_gg [(54, _)] (grd1 rfl rfl rfl hgc1) ⟨und1 rfl, trivial⟩ (fun hw3 => g_ne rfl rfl) rfl ?_
  refine ow_g (g_por rfl rfl hgc1) rfl ?_
  refine ow_g (g_mv rfl) rfl (ow_grp 57 false rfl (fun c2 hgc2 => ?_))
  refine ow_gg [(5, _)] (grd1 rfl rfl rfl hgc2) ⟨und0 rfl, trivial⟩ (fun hw4 => g_ldab (cs' := [_, _, _, _, _, _, _, _, _, _, _, _, _, _, _, _, _, _, _]) ag28 ty28 rfl hb4 rfl rfl) rfl ?_
  refine ow_gdk [(58, _)] (grd1 rfl rfl rfl hgc2) ⟨und1 rfl, trivial⟩ (fun hw5 => d_call (vs := [_]) rfl (right20_any _ _ _ _ _ _ _ _ _ _ _ _ _ _ _ ⟨(kyA c).1, gpR (kyV c).1, lf0, 0, [], [], []⟩ _ o70.rd o71.rd o72.rd o73.rd o74.rd o75.rd o76.rd (show RdB _ _ [] from Rd.nil _ _) (show RdB _ _ [] from Rd.nil _ _) (show RdB _ _ [] from Rd.nil _ _) (show RdB _ _ [] from Rd.nil _ _) (show RdB _ _ [] from Rd.nil _ _) (show RdB _ _ [] from Rd.nil _ _) (show RdB _ _ [] from Rd.nil _ _) (show RdB _ _ [] from Rd.nil _ _) (Nat.le_trans gm.1 (by decide)) (Nat.le_trans gm.2.1 (by decide)) (Nat.le_trans gm.2.2.1 (by decide)) (Nat.le_trans gm.2.2.2.1 (by decide)) (Nat.le_trans gm.2.2.2.2.1 (by decide)) (Nat.le_trans gm.2.2.2.2.2.1 (by decide)) (Nat.le_trans gm.2.2.2.2.2.2 (by decide)) (Nat.zero_le _) (Nat.zero_le _) (Nat.zero_le _) (Nat.zero_le _) (Nat.zero_le _) (Nat.zero_le _) (Nat.zero_le _) (Nat.zero_le _))) rfl ?_
  rintro w12 k10
  replace hb1 := hb1.keep0 k10
  replace rr := rr.keep0 k10
  replace o1 := o1.keep0 k10
  replace o70 := o70.keep0 k10
  replace o71 := o71.keep0 k10
  replace o72 := o72.keep0 k10
  replace o73 := o73.keep0 k10
  replace o74 := o74.keep0 k10
  replace o75 := o75.keep0 k10
  replace o76 := o76.keep0 k10
  replace hb4 := hb4.keep0 k10
  replace hB := hB.trans k10
  refine ow_gg [(59, _)] (grd1 rfl rfl rfl hgc2) ⟨und1 rfl, trivial⟩ (fun hw6 => g_not rfl) rfl ?_
  refine ow_g (g_por rfl rfl hgc2) rfl ?_
  refine ow_nil (tw_keep [(2, _), (5, _), (61, _)] ⟨rfl, rfl, rfl, trivial⟩ ?_)
  refine tw_cond rfl (fun hc2 => ?_) (fun hc2 => ?_)
  ·
   have hd1 := hc2
   try (simp only [Bool.and_eq_true, Bool.or_eq_true, decide_eq_true_eq, Bool.and_eq_false_iff, Bool.or_eq_false_iff, decide_eq_false_iff_not, Bool.not_eq_true', Bool.not_eq_false', Bool.not_eq_true, Bool.not_eq_false, ne_eq, Decidable.not_not, decide_true, decide_false, Bool.true_and, Bool.false_and, Bool.or_false, Bool.false_or, not_true_eq_false, false_or, or_false, true_and, and_true, not_false_eq_true, reduceCtorEq] at hd1)
   refine tw_seq (tw_region (ow_g (g_bld (idx := []) (xs := []) (vs := []) (css := []) (out := [_, _, _, _, _, _, _, _, _, _, _, _, _, _, _, _, _, _, _]) pl28 ty28 rfl rfl trivial rfl rfl) rfl ?_))
   refine ow_d0 (d_sta ty28 rfl rfl rfl (by simp only [List.forall_mem_cons]; refine ⟨rfl, rfl, rfl, rfl, rfl, rfl, rfl, rfl, rfl, rfl, rfl, rfl, rfl, rfl, rfl, rfl, rfl, rfl, rfl, fun v hv => by cases hv⟩) hb1 rfl) ?_
   rintro _ w13 ⟨hb5, k11, z5⟩
   replace o1 := o1.keep k11 (fun x hx hm => sb_b1_o1 x hx (List.mem_singleton.1 hm))
   replace o70 := o70.keep k11 (fun x hx hm => (fun x hx => (show x ≠ b1 from by have := (o70.blk x hx).1; omega)) x hx (List.mem_singleton.1 hm))
   replace o71 := o71.keep k11 (fun x hx hm => (fun x hx => (show x ≠ b1 from by have := (o71.blk x hx).1; omega)) x hx (List.mem_singleton.1 hm))
   replace o72 := o72.keep k11 (fun x hx hm => (fun x hx => (show x ≠ b1 from by have := (o72.blk x hx).1; omega)) x hx (List.mem_singleton.1 hm))
   replace o73 := o73.keep k11 (fun x hx hm => (fun x hx => (show x ≠ b1 from by have := (o73.blk x hx).1; omega)) x hx (List.mem_singleton.1 hm))
   replace o74 := o74.keep k11 (fun x hx hm => (fun x hx => (show x ≠ b1 from by have := (o74.blk x hx).1; omega)) x hx (List.mem_singleton.1 hm))
   replace o75 := o75.keep k11 (fun x hx hm => (fun x hx => (show x ≠ b1 from by have := (o75.blk x hx).1; omega)) x hx (List.mem_singleton.1 hm))
   replace o76 := o76.keep k11 (fun x hx hm => (fun x hx => (show x ≠ b1 from by have := (o76.blk x hx).1; omega)) x hx (List.mem_singleton.1 hm))
   replace hb4 := hb4.keep k11 (fun hm => absurd (List.mem_singleton.1 hm) (Ne.symm ne_b1_b2))
   replace hB := hB.new k11 (fun x hx => .inl ((List.mem_singleton.1 hx) ▸ ge_b1))
   clear z5
   replace hb5 : Bk w13 b1 _ [.int .i64 0, .slice none 0 0, .slice none 0 0, .slice none 0 0, .slice none 0 0, .int .i64 0, .slice none 0 0, .slice none 0 0, .slice none 0 0, .slice none 0 0, .slice none 0 0, .slice none 0 0, .int .i64 0, .slice none 0 0, .slice none 0 0, .int .i64 0, .slice none 0 0, .slice none 0 0, .slice none 0 0] := hb5
   refine ow_g (g_as rfl) rfl (ow_nil (tw_retct hfin Try.results10 rfl (run_loadAgg ag28 ty28 hb5 rfl) rfl ?_))
   have hk : (kyA c).1 = 1 := by assumption
   obtain ⟨e1, e2, e3⟩ := ky_1 hk
   have eX : kyP c = ⟨(kyA c).1, gpR (kyV c).1, lf0, 0, [], [], []⟩ := by rw [hk]; exact e1
   have hok : kgOk c = false := by
    unfold kgOk; rw [eX, e2, e3, kg_b, show (decide (gpE (kyV c).1 ≠ 0) || decide (rEnd (kyV c).2.1 (kyV c).2.2 ≠ 0) || !prOk ⟨(kyA c).1, gpR (kyV c).1, lf0, 0, [], [], []⟩) = true from by assumption]; rfl
   unfold kgR kgE; rw [hok]
   exact ⟨_, _, _, _, _, _, _, _, _, _, _, _, _, _, _, rfl, own_nil _ _ _ _, own_nil _ _ _ _, own_nil _ _ _ _, own_nil _ _ _ _, own_nil _ _ _ _, own_nil _ _ _ _, own_nil _ _ _ _, own_nil _ _ _ _, own_nil _ _ _ _, own_nil _ _ _ _, own_nil _ _ _ _, own_nil _ _ _ _, own_nil _ _ _ _, own_nil _ _ _ _, own_nil _ _ _ _, hB⟩
  ·
   have hd2 := hc2
   try (simp only [Bool.and_eq_true, Bool.or_eq_true, decide_eq_true_eq, Bool.and_eq_false_iff, Bool.or_eq_false_iff, decide_eq_false_iff_not, Bool.not_eq_true', Bool.not_eq_false', Bool.not_eq_true, Bool.not_eq_false, ne_eq, Decidable.not_not, decide_true, decide_false, Bool.true_and, Bool.false_and, Bool.or_false, Bool.false_or, not_true_eq_false, false_or, or_false, true_and, and_true, not_false_eq_true, reduceCtorEq] at hd2)
   refine tw_skip (tw_seq (tw_region (ow_g (g_ldab (cs' := [_, _, _, _, _, _, _, _, _, _, _, _, _, _, _, _, _, _, _]) ag28 ty28 rfl hb4 rfl rfl) rfl ?_)))
   refine ow_d0 (d_sta ty28 rfl rfl rfl (by simp only [List.forall_mem_cons]; exact ⟨rfl, (Own.rd o70).one, (Own.rd o71).one, (Own.rd o72).one, (Own.rd o73).one, rfl, (Own.rd o74).one, (Own.rd o75).one, (Own.rd o76).one, rfl, rfl, rfl, rfl, rfl, rfl, rfl, rfl, rfl, rfl, fun v hv => by cases hv⟩) hb1 rfl) ?_
   rintro _ w14 ⟨hb6, k12, z6⟩
   replace o1 := o1.keep k12 (fun x hx hm => sb_b1_o1 x hx (List.mem_singleton.1 hm))
   replace o70 := o70.keep k12 (fun x hx hm => (fun x hx => (show x ≠ b1 from by have := (o70.blk x hx).1; omega)) x hx (List.mem_singleton.1 hm))
   replace o71 := o71.keep k12 (fun x hx hm => (fun x hx => (show x ≠ b1 from by have := (o71.blk x hx).1; omega)) x hx (List.mem_singleton.1 hm))
   replace o72 := o72.keep k12 (fun x hx hm => (fun x hx => (show x ≠ b1 from by have := (o72.blk x hx).1; omega)) x hx (List.mem_singleton.1 hm))
   replace o73 := o73.keep k12 (fun x hx hm => (fun x hx => (show x ≠ b1 from by have := (o73.blk x hx).1; omega)) x hx (List.mem_singleton.1 hm))
   replace o74 := o74.keep k12 (fun x hx hm => (fun x hx => (show x ≠ b1 from by have := (o74.blk x hx).1; omega)) x hx (List.mem_singleton.1 hm))
   replace o75 := o75.keep k12 (fun x hx hm => (fun x hx => (show x ≠ b1 from by have := (o75.blk x hx).1; omega)) x hx (List.mem_singleton.1 hm))
   replace o76 := o76.keep k12 (fun x hx hm => (fun x hx => (show x ≠ b1 from by have := (o76.blk x hx).1; omega)) x hx (List.mem_singleton.1 hm))
   replace hb4 := hb4.keep k12 (fun hm => absurd (List.mem_singleton.1 hm) (Ne.symm ne_b1_b2))
   replace hB := hB.new k12 (fun x hx => .inl ((List.mem_singleton.1 hx) ▸ ge_b1))
   clear z6
   replace hb6 : Bk w14 b1 _ [.int .i64 (kyA c).1, q0, q1, q2, q3, .int .i64 (gpR (kyV c).1).leaf.src, q4, q5, q6, .slice none 0 0, .slice none 0 0, .slice none 0 0, .int .i64 0, .slice none 0 0, .slice none 0 0, .int .i64 0, .slice none 0 0, .slice none 0 0, .slice none 0 0] := hb6
   refine ow_g (g_as rfl) rfl (ow_nil (tw_retct hfin Try.results10 rfl (run_loadAgg ag28 ty28 hb6 rfl) rfl ?_))
   have hk : (kyA c).1 = 1 := by assumption
   obtain ⟨e1, e2, e3⟩ := ky_1 hk
   have eX : kyP c = ⟨(kyA c).1, gpR (kyV c).1, lf0, 0, [], [], []⟩ := by rw [hk]; exact e1
   have hok : kgOk c = true := by
    unfold kgOk; rw [eX, e2, e3, kg_b, show (decide (gpE (kyV c).1 ≠ 0) || decide (rEnd (kyV c).2.1 (kyV c).2.2 ≠ 0) || !prOk ⟨(kyA c).1, gpR (kyV c).1, lf0, 0, [], [], []⟩) = false from by assumption]; rfl
   rw [show kgR c = ⟨(kyA c).1, gpR (kyV c).1, lf0, 0, [], [], []⟩ from by unfold kgR; rw [hok]; exact eX, show kgE c = 0 from by unfold kgE; rw [hok]; rfl]
   exact ⟨_, _, _, _, _, _, _, _, _, _, _, _, _, _, _, rfl, o70.lo gwQ, o71.lo gwQ, o72.lo gwQ, o73.lo gwQ, o74.lo gwQ, o75.lo gwQ, o76.lo gwQ, own_nil _ _ _ _, own_nil _ _ _ _, own_nil _ _ _ _, own_nil _ _ _ _, own_nil _ _ _ _, own_nil _ _ _ _, own_nil _ _ _ _, own_nil _ _ _ _, hB⟩
 ·
  refine tw_seq (tw_region (ow_g (g_eq rfl rfl) rfl ?_))
  refine ow_g (g_as rfl) rfl (ow_nil (tw_keep [(2, _), (4, _), (5, _), (6, _), (13, _), (23, _)] ⟨rfl, rfl, rfl, rfl, rfl, rfl, trivial⟩ ?_))
  refine tw_if rfl (fun hc3 => ?_) (fun hc3 => ?_)
  ·
   refine tw_region (ow_g (g_mv rfl) rfl ?_)
   have lv_km3 := rr.lt
   have gw_o2 := hB.size
   have lb_o2_b1 := hb1.lt
   have lb_o2_b2 := hb3.lt
   refine ow_d (d_call (vs := [_]) rfl (rvector_any p1 (kyA c).2.1 (kyA c).2.2 _ rr)) rfl ?_
   rintro v2 w15 ⟨_, rfl, o2, rr, km3⟩
   have gl_o2 := hB.size
   have sb_b1_o2 := fun x hx => (show x ≠ b1 from by have h1 := (o2.blk x hx).1; have h2 := hb1.lt; omega)
   have sb_b2_o2 := fun x hx => (show x ≠ b2 from by have h1 := (o2.blk x hx).1; have h2 := hb3.lt; omega)
   have z_km3 := km3.size
   replace hb1 := hb1.keep km3 (fun hm => by have h9 := List.mem_singleton.1 hm; omega)
   replace hb3 := hb3.keep km3 (fun hm => by have h9 := List.mem_singleton.1 hm; omega)
   replace hB := hB.new km3 (fun x hm => .inl (by have h9 := List.mem_singleton.1 hm; omega))
   have rr : RdR w15 p1 (kyV c).2.1 (kyV c).2.2 := rr
   replace o2 : OwnB w15 w5.heap.size v2 (kyV c).1 := o2
   have u_o2 := o2.blk
   have lc_b1 := hb1.lt
   have lc_b2 := hb3.lt
   have gwQ := hB.size
   have lcr := rr.lt
   refine ow_d (d_call (vs := [_]) rfl (rgetLeaf_any _ (kyV c).1 _ o2.rd hlV)) rfl ?_
   rintro _ w16 ⟨r0, r1, r2, r3, r4, rfl, o70, o71, o72, o73, o74, k13⟩
   replace hb1 := hb1.keep0 k13
   replace rr := rr.keep0 k13
   replace hb3 := hb3.keep0 k13
   replace o2 := o2.keep0 k13
   replace hB := hB.trans k13
   have u_o70 := o70.blk
   have u_o71 := o71.blk
   have u_o72 := o72.blk
   have u_o73 := o73.blk
   have u_o74 := o74.blk
   refine ow_g (g_mv rfl) rfl (ow_g (g_ext (vs := [_, _]) rfl rfl) rfl ?_)
   refine ow_g (g_ext (vs := [_, _]) rfl rfl) rfl ?_
   refine ow_g (g_fa Try.underlying28 rfl ty24 (by decide) rfl) rfl ?_
   refine ow_d0 (d_sta ty24 rfl rfl rfl (by simp only [List.forall_mem_cons]; exact ⟨(Own.rd o70).one, (Own.rd o71).one, (Own.rd o72).one, rfl, (Own.rd o73).one, (Own.rd o74).one, fun v hv => by cases hv⟩) hb3 rfl) ?_
   rintro _ w17 ⟨hb7, k14, z7⟩
   replace hb1 := hb1.keep k14 (fun hm => absurd (List.mem_singleton.1 hm) ne_b1_b2)
   replace rr := rr.keep k14 (fun x hx hm => (fun x (hx : x ≤ p1) => (show x ≠ b2 from by omega)) x hx (List.mem_singleton.1 hm))
   replace o2 := o2.keep k14 (fun x hx hm => sb_b2_o2 x hx (List.mem_singleton.1 hm))
   replace o70 := o70.keep k14 (fun x hx hm => (fun x hx => (show x ≠ b2 from by have := (o70.blk x hx).1; omega)) x hx (List.mem_singleton.1 hm))
   replace o71 := o71.keep k14 (fun x hx hm => (fun x hx => (show x ≠ b2 from by have := (o71.blk x hx).1; omega)) x hx (List.mem_singleton.1 hm))
   replace o72 := o72.keep k14 (fun x hx hm => (fun x hx => (show x ≠ b2 from by have := (o72.blk x hx).1; omega)) x hx (List.mem_singleton.1 hm))
   replace o73 := o73.keep k14 (fun x hx hm => (fun x hx => (show x ≠ b2 from by have := (o73.blk x hx).1; omega)) x hx (List.mem_singleton.1 hm))
   replace o74 := o74.keep k14 (fun x hx hm => (fun x hx => (show x ≠ b2 from by have := (o74.blk x hx).1; omega)) x hx (List.mem_singleton.1 hm))
   replace hB := hB.new k14 (fun x hx => .inl ((List.mem_singleton.1 hx) ▸ ge_b2))
   clear z7
   replace hb7 : Bk w17 b2 _ [.int .i64 (kyA c).1, .slice none 0 0, .slice none 0 0, .slice none 0 0, .slice none 0 0, .int .i64 0, .slice none 0 0, .slice none 0 0, .slice none 0 0, r0, r1, r2, .int .i64 (glR (kyV c).1).src, r3, r4, .int .i64 0, .slice none 0 0, .slice none 0 0, .slice none 0 0] := hb7
   refine ow_g (g_as rfl) rfl (ow_nil (tw_b (tw_seq (tw_seq (tw_region (ow_g (g_mv rfl) rfl ?_))))))
   refine ow_g (g_ne rfl rfl) rfl ?_
   refine ow_g (g_mv rfl) rfl (ow_grp 52 false rfl (fun c3 hgc3 => ?_))
   refine ow_gg [(4, _)] (grd1 rfl rfl rfl hgc3) ⟨und0 rfl, trivial⟩ (fun hw7 => g_mv rfl) rfl ?_
   refine ow_gdk [(53, _)] (grd1 rfl rfl rfl hgc3) ⟨und1 rfl, trivial⟩ (fun hw8 => d_call (vs := [_]) rfl (rrend_any _ _ _ _ rr)) rfl ?_
   rintro w19 k16
   replace hb1 := hb1.keep0 k16
   replace rr := rr.keep0 k16
   replace o2 := o2.keep0 k16
   replace o70 := o70.keep0 k16
   replace o71 := o71.keep0 k16
   replace o72 := o72.keep0 k16
   replace o73 := o73.keep0 k16
   replace o74 := o74.keep0 k16
   replace hb7 := hb7.keep0 k16
   replace hB := hB.trans k16
   refine ow_gg [(54, _)] (grd1 rfl rfl rfl hgc3) ⟨und1 rfl, trivial⟩ (fun hw9 => g_ne rfl rfl) rfl ?_
   refine ow_g (g_por rfl rfl hgc3) rfl ?_
   refine ow_g (g_mv rfl) rfl (ow_grp 57 false rfl (fun c4 hgc4 => ?_))
   refine ow_gg [(5, _)] (grd1 rfl rfl rfl hgc4) ⟨und0 rfl, trivial⟩ (fun hw10 => g_ldab (cs' := [_, _, _, _, _, _, _, _, _, _, _, _, _, _, _, _, _, _, _]) ag28 ty28 rfl hb7 rfl rfl) rfl ?_
   refine ow_gdk [(58, _)] (grd1 rfl rfl rfl hgc4) ⟨und1 rfl, trivial⟩ (fun hw11 => d_call (vs := [_]) rfl (right20_any _ _ _ _ _ _ _ _ _ _ _ _ _ _ _ ⟨(kyA c).1, pk0, glR (kyV c).1, 0, [], [], []⟩ _ (show RdB _ _ [] from Rd.nil _ _) (show RdB _ _ [] from Rd.nil _ _) (show RdB _ _ [] from Rd.nil _ _) (show RdB _ _ [] from Rd.nil _ _) (show RdB _ _ [] from Rd.nil _ _) (show RdB _ _ [] from Rd.nil _ _) (show RdB _ _ [] from Rd.nil _ _) o70.rd o71.rd o72.rd o73.rd o74.rd (show RdB _ _ [] from Rd.nil _ _) (show RdB _ _ [] from Rd.nil _ _) (show RdB _ _ [] from Rd.nil _ _) (Nat.zero_le _) (Nat.zero_le _) (Nat.zero_le _) (Nat.zero_le _) (Nat.zero_le _) (Nat.zero_le _) (Nat.zero_le _) (Nat.le_trans lm.1 (by decide)) (Nat.le_trans lm.2.1 (by decide)) (Nat.le_trans lm.2.2.1 (by decide)) (Nat.le_trans lm.2.2.2.1 (by decide)) (Nat.le_trans lm.2.2.2.2 (by decide)) (Nat.zero_le _) (Nat.zero_le _) (Nat.zero_le _))) rfl ?_
   rintro w21 k18
   replace hb1 := hb1.keep0 k18
   replace rr := rr.keep0 k18
   replace o2 := o2.keep0 k18
   replace o70 := o70.keep0 k18
   replace o71 := o71.keep0 k18
   replace o72 := o72.keep0 k18
   replace o73 := o73.keep0 k18
   replace o74 := o74.keep0 k18
   replace hb7 := hb7.keep0 k18
   replace hB := hB.trans k18
   refine ow_gg [(59, _)] (grd1 rfl rfl rfl hgc4) ⟨und1 rfl, trivial⟩ (fun hw12 => g_not rfl) rfl ?_
   refine ow_g (g_por rfl rfl hgc4) rfl ?_
   refine ow_nil (tw_keep [(2, _), (5, _), (61, _)] ⟨rfl, rfl, rfl, trivial⟩ ?_)
   refine tw_cond rfl (fun hc4 => ?_) (fun hc4 => ?_)
   ·
    have hd3 := hc4
    try (simp only [Bool.and_eq_true, Bool.or_eq_true, decide_eq_true_eq, Bool.and_eq_false_iff, Bool.or_eq_false_iff, decide_eq_false_iff_not, Bool.not_eq_true', Bool.not_eq_false', Bool.not_eq_true, Bool.not_eq_false, ne_eq, Decidable.not_not, decide_true, decide_false, Bool.true_and, Bool.false_and, Bool.or_false, Bool.false_or, not_true_eq_false, false_or, or_false, true_and, and_true, not_false_eq_true, reduceCtorEq] at hd3)
    refine tw_seq (tw_region (ow_g (g_bld (idx := []) (xs := []) (vs := []) (css := []) (out := [_, _, _, _, _, _, _, _, _, _, _, _, _, _, _, _, _, _, _]) pl28 ty28 rfl rfl trivial rfl rfl) rfl ?_))
    refine ow_d0 (d_sta ty28 rfl rfl rfl (by simp only [List.forall_mem_cons]; refine ⟨rfl, rfl, rfl, rfl, rfl, rfl, rfl, rfl, rfl, rfl, rfl, rfl, rfl, rfl, rfl, rfl, rfl, rfl, rfl, fun v hv => by cases hv⟩) hb1 rfl) ?_
    rintro _ w22 ⟨hb8, k19, z8⟩
    replace o2 := o2.keep k19 (fun x hx hm => sb_b1_o2 x hx (List.mem_singleton.1 hm))
    replace o70 := o70.keep k19 (fun x hx hm => (fun x hx => (show x ≠ b1 from by have := (o70.blk x hx).1; omega)) x hx (List.mem_singleton.1 hm))
    replace o71 := o71.keep k19 (fun x hx hm => (fun x hx => (show x ≠ b1 from by have := (o71.blk x hx).1; omega)) x hx (List.mem_singleton.1 hm))
    replace o72 := o72.keep k19 (fun x hx hm => (fun x hx => (show x ≠ b1 from by have := (o72.blk x hx).1; omega)) x hx (List.mem_singleton.1 hm))
    replace o73 := o73.keep k19 (fun x hx hm => (fun x hx => (show x ≠ b1 from by have := (o73.blk x hx).1; omega)) x hx (List.mem_singleton.1 hm))
    replace o74 := o74.keep k19 (fun x hx hm => (fun x hx => (show x ≠ b1 from by have := (o74.blk x hx).1; omega)) x hx (List.mem_singleton.1 hm))
    replace hb7 := hb7.keep k19 (fun hm => absurd (List.mem_singleton.1 hm) (Ne.symm ne_b1_b2))
    replace hB := hB.new k19 (fun x hx => .inl ((List.mem_singleton.1 hx) ▸ ge_b1))
    clear z8
    replace hb8 : Bk w22 b1 _ [.int .i64 0, .slice none 0 0, .slice none 0 0, .slice none 0 0, .slice none 0 0, .int .i64 0, .slice none 0 0, .slice none 0 0, .slice none 0 0, .slice none 0 0, .slice none 0 0, .slice none 0 0, .int .i64 0, .slice none 0 0, .slice none 0 0, .int .i64 0, .slice none 0 0, .slice none 0 0, .slice none 0 0] := hb8
    refine ow_g (g_as rfl) rfl (ow_nil (tw_retct hfin Try.results10 rfl (run_loadAgg ag28 ty28 hb8 rfl) rfl ?_))
    have hk : (kyA c).1 = 2 := by assumption
    obtain ⟨e1, e2, e3⟩ := ky_2 hk
    have eX : kyP c = ⟨(kyA c).1, pk0, glR (kyV c).1, 0, [], [], []⟩ := by rw [hk]; exact e1
    have hok : kgOk c = false := by
     unfold kgOk; rw [eX, e2, e3, kg_b, show (decide (glE (kyV c).1 ≠ 0) || decide (rEnd (kyV c).2.1 (kyV c).2.2 ≠ 0) || !prOk ⟨(kyA c).1, pk0, glR (kyV c).1, 0, [], [], []⟩) = true from by assumption]; rfl
    unfold kgR kgE; rw [hok]
    exact ⟨_, _, _, _, _, _, _, _, _, _, _, _, _, _, _, rfl, own_nil _ _ _ _, own_nil _ _ _ _, own_nil _ _ _ _, own_nil _ _ _ _, own_nil _ _ _ _, own_nil _ _ _ _, own_nil _ _ _ _, own_nil _ _ _ _, own_nil _ _ _ _, own_nil _ _ _ _, own_nil _ _ _ _, own_nil _ _ _ _, own_nil _ _ _ _, own_nil _ _ _ _, own_nil _ _ _ _, hB⟩
   ·
    have hd4 := hc4
    try (simp only [Bool.and_eq_true, Bool.or_eq_true, decide_eq_true_eq, Bool.and_eq_false_iff, Bool.or_eq_false_iff, decide_eq_false_iff_not, Bool.not_eq_true', Bool.not_eq_false', Bool.not_eq_true, Bool.not_eq_false, ne_eq, Decidable.not_not, decide_true, decide_false, Bool.true_and, Bool.false_and, Bool.or_false, Bool.false_or, not_true_eq_false, false_or, or_false, true_and, and_true, not_false_eq_true, reduceCtorEq] at hd4)
    refine tw_skip (tw_seq (tw_region (ow_g (g_ldab (cs' := [_, _, _, _, _, _, _, _, _, _, _, _, _, _, _, _, _, _, _]) ag28 ty28 rfl hb7 rfl rfl) rfl ?_)))
    refine ow_d0 (d_sta ty28 rfl rfl rfl (by simp only [List.forall_mem_cons]; exact ⟨rfl, rfl, rfl, rfl, rfl, rfl, rfl, rfl, rfl, (Own.rd o70).one, (Own.rd o71).one, (Own.rd o72).one, rfl, (Own.rd o73).one, (Own.rd o74).one, rfl, rfl, rfl, rfl, fun v hv => by cases hv⟩) hb1 rfl) ?_
    rintro _ w23 ⟨hb9, k20, z9⟩
    replace o2 := o2.keep k20 (fun x hx hm => sb_b1_o2 x hx (List.mem_singleton.1 hm))
    replace o70 := o70.keep k20 (fun x hx hm => (fun x hx => (show x ≠ b1 from by have := (o70.blk x hx).1; omega)) x hx (List.mem_singleton.1 hm))
    replace o71 := o71.keep k20 (fun x hx hm => (fun x hx => (show x ≠ b1 from by have := (o71.blk x hx).1; omega)) x hx (List.mem_singleton.1 hm))
    replace o72 := o72.keep k20 (fun x hx hm => (fun x hx => (show x ≠ b1 from by have := (o72.blk x hx).1; omega)) x hx (List.mem_singleton.1 hm))
    replace o73 := o73.keep k20 (fun x hx hm => (fun x hx => (show x ≠ b1 from by have := (o73.blk x hx).1; omega)) x hx (List.mem_singleton.1 hm))
    replace o74 := o74.keep k20 (fun x hx hm => (fun x hx => (show x ≠ b1 from by have := (o74.blk x hx).1; omega)) x hx (List.mem_singleton.1 hm))
    replace hb7 := hb7.keep k20 (fun hm => absurd (List.mem_singleton.1 hm) (Ne.symm ne_b1_b2))
    replace hB := hB.new k20 (fun x hx => .inl ((List.mem_singleton.1 hx) ▸ ge_b1))
    clear z9
    replace hb9 : Bk w23 b1 _ [.int .i64 (kyA c).1, .slice none 0 0, .slice none 0 0, .slice none 0 0, .slice none 0 0, .int .i64 0, .slice none 0 0, .slice none 0 0, .slice none 0 0, r0, r1, r2, .int .i64 (glR (kyV c).1).src, r3, r4, .int .i64 0, .slice none 0 0, .slice none 0 0, .slice none 0 0] := hb9
    refine ow_g (g_as rfl) rfl (ow_nil (tw_retct hfin Try.results10 rfl (run_loadAgg ag28 ty28 hb9 rfl) rfl ?_))
    have hk : (kyA c).1 = 2 := by assumption
    obtain ⟨e1, e2, e3⟩ := ky_2 hk
    have eX : kyP c = ⟨(kyA c).1, pk0, glR (kyV c).1, 0, [], [], []⟩ := by rw [hk]; exact e1
    have hok : kgOk c = true := by
     unfold kgOk; rw [eX, e2, e3, kg_b, show (decide (glE (kyV c).1 ≠ 0) || decide (rEnd (kyV c).2.1 (kyV c).2.2 ≠ 0) || !prOk ⟨(kyA c).1, pk0, glR (kyV c).1, 0, [], [], []⟩) = false from by assumption]; rfl
    rw [show kgR c = ⟨(kyA c).1, pk0, glR (kyV c).1, 0, [], [], []⟩ from by unfold kgR; rw [hok]; exact eX, show kgE c = 0 from by unfold kgE; rw [hok]; rfl]
    exact ⟨_, _, _, _, _, _, _, _, _, _, _, _, _, _, _, rfl, own_nil _ _ _ _, own_nil _ _ _ _, own_nil _ _ _ _, own_nil _ _ _ _, own_nil _ _ _ _, own_nil _ _ _ _, own_nil _ _ _ _, o70.lo gwQ, o71.lo gwQ, o72.lo gwQ, o73.lo gwQ, o74.lo gwQ, own_nil _ _ _ _, own_nil _ _ _ _, own_nil _ _ _ _, hB⟩
  ·
   refine tw_seq (tw_region (ow_g (g_eq rfl rfl) rfl ?_))
   refine ow_g (g_as rfl) rfl (ow_nil (tw_if rfl (fun hc5 => ?_) (fun hc5 => ?_)))
   ·
    refine tw_region (ow_g (g_mv rfl) rfl ?_)
    have lv_km4 := rr.lt
    refine ow_d (d_call (vs := [_, _]) rfl (rrnum4_any p1 (kyA c).2.1 (kyA c).2.2 _ rr)) rfl ?_
    rintro _ w24 ⟨rfl, rr, km4⟩
    have z_km4 := km4.size
    replace hb1 := hb1.keep km4 (fun hm => by have h9 := List.mem_singleton.1 hm; omega)
    replace hb3 := hb3.keep km4 (fun hm => by have h9 := List.mem_singleton.1 hm; omega)
    replace hB := hB.new km4 (fun x hm => .inl (by have h9 := List.mem_singleton.1 hm; omega))
    have rr : RdR w24 p1 (kyN c).2.1 (kyN c).2.2 := rr
    show OW _ _ _ _ _ _ ((35, .int .i64 (kyN c).1) :: _) _
    refine ow_g (g_fa Try.underlying28 rfl ty3 (by decide) rfl) rfl ?_
    refine ow_d0 (d_st ty3 rfl rfl rfl hb3 rfl) ?_
    rintro _ w25 ⟨hb10, k21, z10⟩
    replace hb1 := hb1.keep k21 (fun hm => absurd (List.mem_singleton.1 hm) ne_b1_b2)
    replace rr := rr.keep k21 (fun x hx hm => (fun x (hx : x ≤ p1) => (show x ≠ b2 from by omega)) x hx (List.mem_singleton.1 hm))
    replace hB := hB.new k21 (fun x hx => .inl ((List.mem_singleton.1 hx) ▸ ge_b2))
    clear z10
    replace hb10 : Bk w25 b2 _ [.int .i64 (kyA c).1, .slice none 0 0, .slice none 0 0, .slice none 0 0, .slice none 0 0, .int .i64 0, .slice none 0 0, .slice none 0 0, .slice none 0 0, .slice none 0 0, .slice none 0 0, .slice none 0 0, .int .i64 0, .slice none 0 0, .slice none 0 0, .int .i64 (kyN c).1, .slice none 0 0, .slice none 0 0, .slice none 0 0] := hb10
    refine ow_nil (tw_b (tw_seq (tw_seq (tw_region (ow_g (g_mv rfl) rfl (ow_g (g_ne rfl rfl) rfl ?_))))))
    refine ow_g (g_mv rfl) rfl (ow_grp 52 false rfl (fun c5 hgc5 => ?_))
    refine ow_gg [(4, _)] (grd1 rfl rfl rfl hgc5) ⟨und0 rfl, trivial⟩ (fun hw13 => g_mv rfl) rfl ?_
    refine ow_gdk [(53, _)] (grd1 rfl rfl rfl hgc5) ⟨und1 rfl, trivial⟩ (fun hw14 => d_call (vs := [_]) rfl (rrend_any _ _ _ _ rr)) rfl ?_
    rintro w27 k23
    replace hb1 := hb1.keep0 k23
    replace rr := rr.keep0 k23
    replace hb10 := hb10.keep0 k23
    replace hB := hB.trans k23
    refine ow_gg [(54, _)] (grd1 rfl rfl rfl hgc5) ⟨und1 rfl, trivial⟩ (fun hw15 => g_ne rfl rfl) rfl ?_
    refine ow_g (g_por rfl rfl hgc5) rfl ?_
    refine ow_g (g_mv rfl) rfl (ow_grp 57 false rfl (fun c6 hgc6 => ?_))
    refine ow_gg [(5, _)] (grd1 rfl rfl rfl hgc6) ⟨und0 rfl, trivial⟩ (fun hw16 => g_ldab (cs' := [_, _, _, _, _, _, _, _, _, _, _, _, _, _, _, _, _, _, _]) ag28 ty28 rfl hb10 rfl rfl) rfl ?_
    refine ow_gdk [(58, _)] (grd1 rfl rfl rfl hgc6) ⟨und1 rfl, trivial⟩ (fun hw17 => d_call (vs := [_]) rfl (right20_any _ _ _ _ _ _ _ _ _ _ _ _ _ _ _ ⟨(kyA c).1, pk0, lf0, (kyN c).1, [], [], []⟩ _ (show RdB _ _ [] from Rd.nil _ _) (show RdB _ _ [] from Rd.nil _ _) (show RdB _ _ [] from Rd.nil _ _) (show RdB _ _ [] from Rd.nil _ _) (show RdB _ _ [] from Rd.nil _ _) (show RdB _ _ [] from Rd.nil _ _) (show RdB _ _ [] from Rd.nil _ _) (show RdB _ _ [] from Rd.nil _ _) (show RdB _ _ [] from Rd.nil _ _) (show RdB _ _ [] from Rd.nil _ _) (show RdB _ _ [] from Rd.nil _ _) (show RdB _ _ [] from Rd.nil _ _) (show RdB _ _ [] from Rd.nil _ _) (show RdB _ _ [] from Rd.nil _ _) (show RdB _ _ [] from Rd.nil _ _) (Nat.zero_le _) (Nat.zero_le _) (Nat.zero_le _) (Nat.zero_le _) (Nat.zero_le _) (Nat.zero_le _) (Nat.zero_le _) (Nat.zero_le _) (Nat.zero_le _) (Nat.zero_le _) (Nat.zero_le _) (Nat.zero_le _) (Nat.zero_le _) (Nat.zero_le _) (Nat.zero_le _))) rfl ?_
    rintro w29 k25
    replace hb1 := hb1.keep0 k25
    replace rr := rr.keep0 k25
    replace hb10 := hb10.keep0 k25
    replace hB := hB.trans k25
    refine ow_gg [(59, _)] (grd1 rfl rfl rfl hgc6) ⟨und1 rfl, trivial⟩ (fun hw18 => g_not rfl) rfl ?_
    refine ow_g (g_por rfl rfl hgc6) rfl ?_
    refine ow_nil (tw_keep [(2, _), (5, _), (61, _)] ⟨rfl, rfl, rfl, trivial⟩ ?_)
    refine tw_cond rfl (fun hc6 => ?_) (fun hc6 => ?_)
    ·
     have hd5 := hc6
     try (simp only [Bool.and_eq_true, Bool.or_eq_true, decide_eq_true_eq, Bool.and_eq_false_iff, Bool.or_eq_false_iff, decide_eq_false_iff_not, Bool.not_eq_true', Bool.not_eq_false', Bool.not_eq_true, Bool.not_eq_false, ne_eq, Decidable.not_not, decide_true, decide_false, Bool.true_and, Bool.false_and, Bool.or_false, Bool.false_or, not_true_eq_false, false_or, or_false, true_and, and_true, not_false_eq_true, reduceCtorEq] at hd5)
     refine tw_seq (tw_region (ow_g (g_bld (idx := []) (xs := []) (vs := []) (css := []) (out := [_, _, _, _, _, _, _, _, _, _, _, _, _, _, _, _, _, _, _]) pl28 ty28 rfl rfl trivial rfl rfl) rfl ?_))
     refine ow_d0 (d_sta ty28 rfl rfl rfl (by simp only [List.forall_mem_cons]; refine ⟨rfl, rfl, rfl, rfl, rfl, rfl, rfl, rfl, rfl, rfl, rfl, rfl, rfl, rfl, rfl, rfl, rfl, rfl, rfl, fun v hv => by cases hv⟩) hb1 rfl) ?_
     rintro _ w30 ⟨hb11, k26, z11⟩
     replace hb10 := hb10.keep k26 (fun hm => absurd (List.mem_singleton.1 hm) (Ne.symm ne_b1_b2))
     replace hB := hB.new k26 (fun x hx => .inl ((List.mem_singleton.1 hx) ▸ ge_b1))
     clear z11
     replace hb11 : Bk w30 b1 _ [.int .i64 0, .slice none 0 0, .slice none 0 0, .slice none 0 0, .slice none 0 0, .int .i64 0, .slice none 0 0, .slice none 0 0, .slice none 0 0, .slice none 0 0, .slice none 0 0, .slice none 0 0, .int .i64 0, .slice none 0 0, .slice none 0 0, .int .i64 0, .slice none 0 0, .slice none 0 0, .slice none 0 0] := hb11
     refine ow_g (g_as rfl) rfl (ow_nil (tw_retct hfin Try.results10 rfl (run_loadAgg ag28 ty28 hb11 rfl) rfl ?_))
     have hk : (kyA c).1 = 3 := by assumption
     obtain ⟨e1, e2, e3⟩ := ky_3 hk
     have eX : kyP c = ⟨(kyA c).1, pk0, lf0, (kyN c).1, [], [], []⟩ := by rw [hk]; exact e1
     have hok : kgOk c = false := by
      unfold kgOk; rw [eX, e2, e3, kg_b, show (decide ((0 : Int) ≠ 0) || decide (rEnd (kyN c).2.1 (kyN c).2.2 ≠ 0) || !prOk ⟨(kyA c).1, pk0, lf0, (kyN c).1, [], [], []⟩) = true from by assumption]; rfl
     unfold kgR kgE; rw [hok]
     exact ⟨_, _, _, _, _, _, _, _, _, _, _, _, _, _, _, rfl, own_nil _ _ _ _, own_nil _ _ _ _, own_nil _ _ _ _, own_nil _ _ _ _, own_nil _ _ _ _, own_nil _ _ _ _, own_nil _ _ _ _, own_nil _ _ _ _, own_nil _ _ _ _, own_nil _ _ _ _, own_nil _ _ _ _, own_nil _ _ _ _, own_nil _ _ _ _, own_nil _ _ _ _, own_nil _ _ _ _, hB⟩
    ·
     have hd6 := hc6
     try (simp only [Bool.and_eq_true, Bool.or_eq_true, decide_eq_true_eq, Bool.and_eq_false_iff, Bool.or_eq_false_iff, decide_eq_false_iff_not, Bool.not_eq_true', Bool.not_eq_false', Bool.not_eq_true, Bool.not_eq_false, ne_eq, Decidable.not_not, decide_true, decide_false, Bool.true_and, Bool.false_and, Bool.or_false, Bool.false_or, not_true_eq_false, false_or, or_false, true_and, and_true, not_false_eq_true, reduceCtorEq] at hd6)
     refine tw_skip (tw_seq (tw_region (ow_g (g_ldab (cs' := [_, _, _, _, _, _, _, _, _, _, _, _, _, _, _, _, _, _, _]) ag28 ty28 rfl hb10 rfl rfl) rfl ?_)))
     refine ow_d0 (d_sta ty28 rfl rfl rfl (by simp only [List.forall_mem_cons]; refine ⟨rfl, rfl, rfl, rfl, rfl, rfl, rfl, rfl, rfl, rfl, rfl, rfl, rfl, rfl, rfl, rfl, rfl, rfl, rfl, fun v hv => by cases hv⟩) hb1 rfl) ?_
     rintro _ w31 ⟨hb12, k27, z12⟩
     replace hb10 := hb10.keep k27 (fun hm => absurd (List.mem_singleton.1 hm) (Ne.symm ne_b1_b2))
     replace hB := hB.new k27 (fun x hx => .inl ((List.mem_singleton.1 hx) ▸ ge_b1))
     clear z12
     replace hb12 : Bk w31 b1 _ [.int .i64 (kyA c).1, .slice none 0 0, .slice none 0 0, .slice none 0 0, .slice none 0 0, .int .i64 0, .slice none 0 0, .slice none 0 0, .slice none 0 0, .slice none 0 0, .slice none 0 0, .slice none 0 0, .int .i64 0, .slice none 0 0, .slice none 0 0, .int .i64 (kyN c).1, .slice none 0 0, .slice none 0 0, .slice none 0 0] := hb12
     refine ow_g (g_as rfl) rfl (ow_nil (tw_retct hfin Try.results10 rfl (run_loadAgg ag28 ty28 hb12 rfl) rfl ?_))
     have hk : (kyA c).1 = 3 := by assumption
     obtain ⟨e1, e2, e3⟩ := ky_3 hk
     have eX : kyP c = ⟨(kyA c).1, pk0, lf0, (kyN c).1, [], [], []⟩ := by rw [hk]; exact e1
     have hok : kgOk c = true := by
      unfold kgOk; rw [eX, e2, e3, kg_b, show (decide ((0 : Int) ≠ 0) || decide (rEnd (kyN c).2.1 (kyN c).2.2 ≠ 0) || !prOk ⟨(kyA c).1, pk0, lf0, (kyN c).1, [], [], []⟩) = false from by assumption]; rfl
     rw [show kgR c = ⟨(kyA c).1, pk0, lf0, (kyN c).1, [], [], []⟩ from by unfold kgR; rw [hok]; exact eX, show kgE c = 0 from by unfold kgE; rw [hok]; rfl]
     exact ⟨_, _, _, _, _, _, _, _, _, _, _, _, _, _, _, rfl, own_nil _ _ _ _, own_nil _ _ _ _, own_nil _ _ _ _, own_nil _ _ _ _, own_nil _ _ _ _, own_nil _ _ _ _, own_nil _ _ _ _, own_nil _ _ _ _, own_nil _ _ _ _, own_nil _ _ _ _, own_nil _ _ _ _, own_nil _ _ _ _, own_nil _ _ _ _, own_nil _ _ _ _, own_nil _ _ _ _, hB⟩
   ·
    refine tw_seq (tw_region (ow_g (g_eq rfl rfl) rfl ?_))
    refine ow_g (g_as rfl) rfl (ow_nil (tw_if rfl (fun hc7 => ?_) (fun hc7 => ?_)))
    ·
     refine tw_seq (tw_region (ow_g (g_mv rfl) rfl ?_))
     have lv_km5 := rr.lt
     have gw_o3 := hB.size
     have lb_o3_b1 := hb1.lt
     have lb_o3_b2 := hb3.lt
     refine ow_d (d_call (vs := [_]) rfl (rvector_any p1 (kyA c).2.1 (kyA c).2.2 _ rr)) rfl ?_
     rintro v3 w32 ⟨_, rfl, o3, rr, km5⟩
     have gl_o3 := hB.size
     have sb_b1_o3 := fun x hx => (show x ≠ b1 from by have h1 := (o3.blk x hx).1; have h2 := hb1.lt; omega)
     have sb_b2_o3 := fun x hx => (show x ≠ b2 from by have h1 := (o3.blk x hx).1; have h2 := hb3.lt; omega)
     have z_km5 := km5.size
     replace hb1 := hb1.keep km5 (fun hm => by have h9 := List.mem_singleton.1 hm; omega)
     replace hb3 := hb3.keep km5 (fun hm => by have h9 := List.mem_singleton.1 hm; omega)
     replace hB := hB.new km5 (fun x hm => .inl (by have h9 := List.mem_singleton.1 hm; omega))
     have rr : RdR w32 p1 (kyV c).2.1 (kyV c).2.2 := rr
     replace o3 : OwnB w32 w5.heap.size v3 (kyV c).1 := o3
     have u_o3 := o3.blk
     refine ow_g (g_fa Try.underlying28 rfl ty22 (by decide) rfl) rfl ?_
     refine ow_d0 (d_st ty22 rfl rfl (Rd.one (by first | assumption | exact Own.rd ‹_› | exact Rd.keep0 ‹_› hB | exact Own.rd (Own.keep0 ‹_› hB))) hb3 rfl) ?_
     rintro _ w33 ⟨hb13, k28, z13⟩
     replace hb1 := hb1.keep k28 (fun hm => absurd (List.mem_singleton.1 hm) ne_b1_b2)
     replace rr := rr.keep k28 (fun x hx hm => (fun x (hx : x ≤ p1) => (show x ≠ b2 from by omega)) x hx (List.mem_singleton.1 hm))
     replace o3 := o3.keep k28 (fun x hx hm => sb_b2_o3 x hx (List.mem_singleton.1 hm))
     replace hB := hB.new k28 (fun x hx => .inl ((List.mem_singleton.1 hx) ▸ ge_b2))
     clear z13
     replace hb13 : Bk w33 b2 _ [.int .i64 (kyA c).1, .slice none 0 0, .slice none 0 0, .slice none 0 0, .slice none 0 0, .int .i64 0, .slice none 0 0, .slice none 0 0, .slice none 0 0, .slice none 0 0, .slice none 0 0, .slice none 0 0, .int .i64 0, .slice none 0 0, .slice none 0 0, .int .i64 0, v3, .slice none 0 0, .slice none 0 0] := hb13
     refine ow_nil (tw_region (ow_g (g_mv rfl) rfl ?_))
     have lv_km6 := rr.lt
     have gw_o4 := hB.size
     have lb_o4_b1 := hb1.lt
     have lb_o4_b2 := hb13.lt
     refine ow_d (d_call (vs := [_]) rfl (rvector_any p1 (kyV c).2.1 (kyV c).2.2 _ rr)) rfl ?_
     rintro v4 w34 ⟨_, rfl, o4, rr, km6⟩
     have gl_o4 := hB.size
     have sb_b1_o4 := fun x hx => (show x ≠ b1 from by have h1 := (o4.blk x hx).1; have h2 := hb1.lt; omega)
     have sb_b2_o4 := fun x hx => (show x ≠ b2 from by have h1 := (o4.blk x hx).1; have h2 := hb13.lt; omega)
     have z_km6 := km6.size
     replace hb1 := hb1.keep km6 (fun hm => by have h9 := List.mem_singleton.1 hm; omega)
     replace o3 := o3.keep km6 (fun x hx hm => by have h9 := List.mem_singleton.1 hm; have h8 := (o3.blk x hx).1; omega)
     replace hb13 := hb13.keep km6 (fun hm => by have h9 := List.mem_singleton.1 hm; omega)
     replace hB := hB.new km6 (fun x hm => .inl (by have h9 := List.mem_singleton.1 hm; omega))
     have rr : RdR w34 p1 (kyW c).2.1 (kyW c).2.2 := rr
     replace o4 : OwnB w34 w33.heap.size v4 (kyW c).1 := o4
     have u_o4 := o4.blk
     refine ow_g (g_fa Try.underlying28 rfl ty22 (by decide) rfl) rfl ?_
     refine ow_d0 (d_st ty22 rfl rfl (Rd.one (by first | assumption | exact Own.rd ‹_› | exact Rd.keep0 ‹_› hB | exact Own.rd (Own.keep0 ‹_› hB))) hb13 rfl) ?_
     rintro _ w35 ⟨hb14, k29, z14⟩
     replace hb1 := hb1.keep k29 (fun hm => absurd (List.mem_singleton.1 hm) ne_b1_b2)
     replace rr := rr.keep k29 (fun x hx hm => (fun x (hx : x ≤ p1) => (show x ≠ b2 from by omega)) x hx (List.mem_singleton.1 hm))
     replace o3 := o3.keep k29 (fun x hx hm => sb_b2_o3 x hx (List.mem_singleton.1 hm))
     replace o4 := o4.keep k29 (fun x hx hm => sb_b2_o4 x hx (List.mem_singleton.1 hm))
     replace hB := hB.new k29 (fun x hx => .inl ((List.mem_singleton.1 hx) ▸ ge_b2))
     clear z14
     replace hb14 : Bk w35 b2 _ [.int .i64 (kyA c).1, .slice none 0 0, .slice none 0 0, .slice none 0 0, .slice none 0 0, .int .i64 0, .slice none 0 0, .slice none 0 0, .slice none 0 0, .slice none 0 0, .slice none 0 0, .slice none 0 0, .int .i64 0, .slice none 0 0, .slice none 0 0, .int .i64 0, v3, v4, .slice none 0 0] := hb14
     refine ow_nil (tw_keep [(2, _), (4, _), (5, _), (6, _)] ⟨rfl, rfl, rfl, rfl, trivial⟩ ?_)
     refine tw_b (tw_seq (tw_seq (tw_region (ow_g (g_mv rfl) rfl (ow_g (g_ne rfl rfl) rfl ?_)))))
     refine ow_g (g_mv rfl) rfl (ow_grp 52 false rfl (fun c7 hgc7 => ?_))
     refine ow_gg [(4, _)] (grd1 rfl rfl rfl hgc7) ⟨und0 rfl, trivial⟩ (fun hw19 => g_mv rfl) rfl ?_
     refine ow_gdk [(53, _)] (grd1 rfl rfl rfl hgc7) ⟨und1 rfl, trivial⟩ (fun hw20 => d_call (vs := [_]) rfl (rrend_any _ _ _ _ rr)) rfl ?_
     rintro w37 k31
     replace hb1 := hb1.keep0 k31
     replace rr := rr.keep0 k31
     replace o3 := o3.keep0 k31
     replace o4 := o4.keep0 k31
     replace hb14 := hb14.keep0 k31
     replace hB := hB.trans k31
     refine ow_gg [(54, _)] (grd1 rfl rfl rfl hgc7) ⟨und1 rfl, trivial⟩ (fun hw21 => g_ne rfl rfl) rfl ?_
     refine ow_g (g_por rfl rfl hgc7) rfl ?_
     refine ow_g (g_mv rfl) rfl (ow_grp 57 false rfl (fun c8 hgc8 => ?_))
     refine ow_gg [(5, _)] (grd1 rfl rfl rfl hgc8) ⟨und0 rfl, trivial⟩ (fun hw22 => g_ldab (cs' := [_, _, _, _, _, _, _, _, _, _, _, _, _, _, _, _, _, _, _]) ag28 ty28 rfl hb14 rfl rfl) rfl ?_
     refine ow_gdk [(58, _)] (grd1 rfl rfl rfl hgc8) ⟨und1 rfl, trivial⟩ (fun hw23 => d_call (vs := [_]) rfl (right20_any _ _ _ _ _ _ _ _ _ _ _ _ _ _ _ ⟨(kyA c).1, pk0, lf0, 0, (kyV c).1, (kyW c).1, []⟩ _ (show RdB _ _ [] from Rd.nil _ _) (show RdB _ _ [] from Rd.nil _ _) (show RdB _ _ [] from Rd.nil _ _) (show RdB _ _ [] from Rd.nil _ _) (show RdB _ _ [] from Rd.nil _ _) (show RdB _ _ [] from Rd.nil _ _) (show RdB _ _ [] from Rd.nil _ _) (show RdB _ _ [] from Rd.nil _ _) (show RdB _ _ [] from Rd.nil _ _) (show RdB _ _ [] from Rd.nil _ _) (show RdB _ _ [] from Rd.nil _ _) (show RdB _ _ [] from Rd.nil _ _) o3.rd o4.rd (show RdB _ _ [] from Rd.nil _ _) (Nat.zero_le _) (Nat.zero_le _) (Nat.zero_le _) (Nat.zero_le _) (Nat.zero_le _) (Nat.zero_le _) (Nat.zero_le _) (Nat.zero_le _) (Nat.zero_le _) (Nat.zero_le _) (Nat.zero_le _) (Nat.zero_le _) hlV hlW (Nat.zero_le _))) rfl ?_
     rintro w39 k33
     replace hb1 := hb1.keep0 k33
     replace rr := rr.keep0 k33
     replace o3 := o3.keep0 k33
     replace o4 := o4.keep0 k33
     replace hb14 := hb14.keep0 k33
     replace hB := hB.trans k33
     refine ow_gg [(59, _)] (grd1 rfl rfl rfl hgc8) ⟨und1 rfl, trivial⟩ (fun hw24 => g_not rfl) rfl ?_
     refine ow_g (g_por rfl rfl hgc8) rfl ?_
     refine ow_nil (tw_keep [(2, _), (5, _), (61, _)] ⟨rfl, rfl, rfl, trivial⟩ ?_)
     refine tw_cond rfl (fun hc8 => ?_) (fun hc8 => ?_)
     ·
      have hd7 := hc8
      try (simp only [Bool.and_eq_true, Bool.or_eq_true, decide_eq_true_eq, Bool.and_eq_false_iff, Bool.or_eq_false_iff, decide_eq_false_iff_not, Bool.not_eq_true', Bool.not_eq_false', Bool.not_eq_true, Bool.not_eq_false, ne_eq, Decidable.not_not, decide_true, decide_false, Bool.true_and, Bool.false_and, Bool.or_false, Bool.false_or, not_true_eq_false, false_or, or_false, true_and, and_true, not_false_eq_true, reduceCtorEq] at hd7)
      refine tw_seq (tw_region (ow_g (g_bld (idx := []) (xs := []) (vs := []) (css := []) (out := [_, _, _, _, _, _, _, _, _, _, _, _, _, _, _, _, _, _, _]) pl28 ty28 rfl rfl trivial rfl rfl) rfl ?_))
      refine ow_d0 (d_sta ty28 rfl rfl rfl (by simp only [List.forall_mem_cons]; refine ⟨rfl, rfl, rfl, rfl, rfl, rfl, rfl, rfl, rfl, rfl, rfl, rfl, rfl, rfl, rfl, rfl, rfl, rfl, rfl, fun v hv => by cases hv⟩) hb1 rfl) ?_
      rintro _ w40 ⟨hb15, k34, z15⟩
      replace o3 := o3.keep k34 (fun x hx hm => sb_b1_o3 x hx (List.mem_singleton.1 hm))
      replace o4 := o4.keep k34 (fun x hx hm => sb_b1_o4 x hx (List.mem_singleton.1 hm))
      replace hb14 := hb14.keep k34 (fun hm => absurd (List.mem_singleton.1 hm) (Ne.symm ne_b1_b2))
      replace hB := hB.new k34 (fun x hx => .inl ((List.mem_singleton.1 hx) ▸ ge_b1))
      clear z15
      replace hb15 : Bk w40 b1 _ [.int .i64 0, .slice none 0 0, .slice none 0 0, .slice none 0 0, .slice none 0 0, .int .i64 0, .slice none 0 0, .slice none 0 0, .slice none 0 0, .slice none 0 0, .slice none 0 0, .slice none 0 0, .int .i64 0, .slice none 0 0, .slice none 0 0, .int .i64 0, .slice none 0 0, .slice none 0 0, .slice none 0 0] := hb15
      refine ow_g (g_as rfl) rfl (ow_nil (tw_retct hfin Try.results10 rfl (run_loadAgg ag28 ty28 hb15 rfl) rfl ?_))
      have hk : (kyA c).1 = 4 := by assumption
      obtain ⟨e1, e2, e3⟩ := ky_4 hk
      have eX : kyP c = ⟨(kyA c).1, pk0, lf0, 0, (kyV c).1, (kyW c).1, []⟩ := by rw [hk]; exact e1
      have hok : kgOk c = false := by
       unfold kgOk; rw [eX, e2, e3, kg_b, show (decide ((0 : Int) ≠ 0) || decide (rEnd (kyW c).2.1 (kyW c).2.2 ≠ 0) || !prOk ⟨(kyA c).1, pk0, lf0, 0, (kyV c).1, (kyW c).1, []⟩) = true from by assumption]; rfl
      unfold kgR kgE; rw [hok]
      exact ⟨_, _, _, _, _, _, _, _, _, _, _, _, _, _, _, rfl, own_nil _ _ _ _, own_nil _ _ _ _, own_nil _ _ _ _, own_nil _ _ _ _, own_nil _ _ _ _, own_nil _ _ _ _, own_nil _ _ _ _, own_nil _ _ _ _, own_nil _ _ _ _, own_nil _ _ _ _, own_nil _ _ _ _, own_nil _ _ _ _, own_nil _ _ _ _, own_nil _ _ _ _, own_nil _ _ _ _, hB⟩
     ·
      have hd8 := hc8
      try (simp only [Bool.and_eq_true, Bool.or_eq_true, decide_eq_true_eq, Bool.and_eq_false_iff, Bool.or_eq_false_iff, decide_eq_false_iff_not, Bool.not_eq_true', Bool.not_eq_false', Bool.not_eq_true, Bool.not_eq_false, ne_eq, Decidable.not_not, decide_true, decide_false, Bool.true_and, Bool.false_and, Bool.or_false, Bool.false_or, not_true_eq_false, false_or, or_false, true_and, and_true, not_false_eq_true, reduceCtorEq] at hd8)
      refine tw_skip (tw_seq (tw_region (ow_g (g_ldab (cs' := [_, _, _, _, _, _, _, _, _, _, _, _, _, _, _, _, _, _, _]) ag28 ty28 rfl hb14 rfl rfl) rfl ?_)))
      refine ow_d0 (d_sta ty28 rfl rfl rfl (by simp only [List.forall_mem_cons]; exact ⟨rfl, rfl, rfl, rfl, rfl, rfl, rfl, rfl, rfl, rfl, rfl, rfl, rfl, rfl, rfl, rfl, (Own.rd o3).one, (Own.rd o4).one, rfl, fun v hv => by cases hv⟩) hb1 rfl) ?_
      rintro _ w41 ⟨hb16, k35, z16⟩
      replace o3 := o3.keep k35 (fun x hx hm => sb_b1_o3 x hx (List.mem_singleton.1 hm))
      replace o4 := o4.keep k35 (fun x hx hm => sb_b1_o4 x hx (List.mem_singleton.1 hm))
      replace hb14 := hb14.keep k35 (fun hm => absurd (List.mem_singleton.1 hm) (Ne.symm ne_b1_b2))
      replace hB := hB.new k35 (fun x hx => .inl ((List.mem_singleton.1 hx) ▸ ge_b1))
      clear z16
      replace hb16 : Bk w41 b1 _ [.int .i64 (kyA c).1, .slice none 0 0, .slice none 0 0, .slice none 0 0, .slice none 0 0, .int .i64 0, .slice none 0 0, .slice none 0 0, .slice none 0 0, .slice none 0 0, .slice none 0 0, .slice none 0 0, .int .i64 0, .slice none 0 0, .slice none 0 0, .int .i64 0, v3, v4, .slice none 0 0] := hb16
      refine ow_g (g_as rfl) rfl (ow_nil (tw_retct hfin Try.results10 rfl (run_loadAgg ag28 ty28 hb16 rfl) rfl ?_))
      have hk : (kyA c).1 = 4 := by assumption
      obtain ⟨e1, e2, e3⟩ := ky_4 hk
      have eX : kyP c = ⟨(kyA c).1, pk0, lf0, 0, (kyV c).1, (kyW c).1, []⟩ := by rw [hk]; exact e1
      have hok : kgOk c = true := by
       unfold kgOk; rw [eX, e2, e3, kg_b, show (decide ((0 : Int) ≠ 0) || decide (rEnd (kyW c).2.1 (kyW c).2.2 ≠ 0) || !prOk ⟨(kyA c).1, pk0, lf0, 0, (kyV c).1, (kyW c).1, []⟩) = false from by assumption]; rfl
      rw [show kgR c = ⟨(kyA c).1, pk0, lf0, 0, (kyV c).1, (kyW c).1, []⟩ from by unfold kgR; rw [hok]; exact eX, show kgE c = 0 from by unfold kgE; rw [hok]; rfl]
      exact ⟨_, _, _, _, _, _, _, _, _, _, _, _, _, _, _, rfl, own_nil _ _ _ _, own_nil _ _ _ _, own_nil _ _ _ _, own_nil _ _ _ _, own_nil _ _ _ _, own_nil _ _ _ _, own_nil _ _ _ _, own_nil _ _ _ _, own_nil _ _ _ _, own_nil _ _ _ _, own_nil _ _ _ _, own_nil _ _ _ _, o3.lo gw_o3, o4.lo gw_o4, own_nil _ _ _ _, hB⟩
    ·
     refine tw_seq (tw_region (ow_g (g_eq rfl rfl) rfl ?_))
     refine ow_g (g_as rfl) rfl (ow_nil (tw_if rfl (fun hc9 => ?_) (fun hc9 => ?_)))
     ·
      refine tw_region (ow_g (g_mv rfl) rfl ?_)
      have lv_km7 := rr.lt
      have gw_o5 := hB.size
      have lb_o5_b1 := hb1.lt
      have lb_o5_b2 := hb3.lt
      refine ow_d (d_call (vs := [_]) rfl (rvector_any p1 (kyA c).2.1 (kyA c).2.2 _ rr)) rfl ?_
      rintro v5 w42 ⟨_, rfl, o5, rr, km7⟩
      have gl_o5 := hB.size
      have sb_b1_o5 := fun x hx => (show x ≠ b1 from by have h1 := (o5.blk x hx).1; have h2 := hb1.lt; omega)
      have sb_b2_o5 := fun x hx => (show x ≠ b2 from by have h1 := (o5.blk x hx).1; have h2 := hb3.lt; omega)
      have z_km7 := km7.size
      replace hb1 := hb1.keep km7 (fun hm => by have h9 := List.mem_singleton.1 hm; omega)
      replace hb3 := hb3.keep km7 (fun hm => by have h9 := List.mem_singleton.1 hm; omega)
      replace hB := hB.new km7 (fun x hm => .inl (by have h9 := List.mem_singleton.1 hm; omega))
      have rr : RdR w42 p1 (kyV c).2.1 (kyV c).2.2 := rr
      replace o5 : OwnB w42 w5.heap.size v5 (kyV c).1 := o5
      have u_o5 := o5.blk
      refine ow_g (g_fa Try.underlying28 rfl ty22 (by decide) rfl) rfl ?_
      refine ow_d0 (d_st ty22 rfl rfl (Rd.one (by first | assumption | exact Own.rd ‹_› | exact Rd.keep0 ‹_› hB | exact Own.rd (Own.keep0 ‹_› hB))) hb3 rfl) ?_
      rintro _ w43 ⟨hb17, k36, z17⟩
      replace hb1 := hb1.keep k36 (fun hm => absurd (List.mem_singleton.1 hm) ne_b1_b2)
      replace rr := rr.keep k36 (fun x hx hm => (fun x (hx : x ≤ p1) => (show x ≠ b2 from by omega)) x hx (List.mem_singleton.1 hm))
      replace o5 := o5.keep k36 (fun x hx hm => sb_b2_o5 x hx (List.mem_singleton.1 hm))
      replace hB := hB.new k36 (fun x hx => .inl ((List.mem_singleton.1 hx) ▸ ge_b2))
      clear z17
      replace hb17 : Bk w43 b2 _ [.int .i64 (kyA c).1, .slice none 0 0, .slice none 0 0, .slice none 0 0, .slice none 0 0, .int .i64 0, .slice none 0 0, .slice none 0 0, .slice none 0 0, .slice none 0 0, .slice none 0 0, .slice none 0 0, .int .i64 0, .slice none 0 0, .slice none 0 0, .int .i64 0, .slice none 0 0, .slice none 0 0, v5] := hb17
      refine ow_nil (tw_keep [(2, _), (4, _), (5, _), (6, _)] ⟨rfl, rfl, rfl, rfl, trivial⟩ ?_)
      refine tw_b (tw_seq (tw_seq (tw_region (ow_g (g_mv rfl) rfl (ow_g (g_ne rfl rfl) rfl ?_)))))
      refine ow_g (g_mv rfl) rfl (ow_grp 52 false rfl (fun c9 hgc9 => ?_))
      refine ow_gg [(4, _)] (grd1 rfl rfl rfl hgc9) ⟨und0 rfl, trivial⟩ (fun hw25 => g_mv rfl) rfl ?_
      refine ow_gdk [(53, _)] (grd1 rfl rfl rfl hgc9) ⟨und1 rfl, trivial⟩ (fun hw26 => d_call (vs := [_]) rfl (rrend_any _ _ _ _ rr)) rfl ?_
      rintro w45 k38
      replace hb1 := hb1.keep0 k38
      replace rr := rr.keep0 k38
      replace o5 := o5.keep0 k38
      replace hb17 := hb17.keep0 k38
      replace hB := hB.trans k38
      refine ow_gg [(54, _)] (grd1 rfl rfl rfl hgc9) ⟨und1 rfl, trivial⟩ (fun hw27 => g_ne rfl rfl) rfl ?_
      refine ow_g (g_por rfl rfl hgc9) rfl ?_
      refine ow_g (g_mv rfl) rfl (ow_grp 57 false rfl (fun c10 hgc10 => ?_))
      refine ow_gg [(5, _)] (grd1 rfl rfl rfl hgc10) ⟨und0 rfl, trivial⟩ (fun hw28 => g_ldab (cs' := [_, _, _, _, _, _, _, _, _, _, _, _, _, _, _, _, _, _, _]) ag28 ty28 rfl hb17 rfl rfl) rfl ?_
      refine ow_gdk [(58, _)] (grd1 rfl rfl rfl hgc10) ⟨und1 rfl, trivial⟩ (fun hw29 => d_call (vs := [_]) rfl (right20_any _ _ _ _ _ _ _ _ _ _ _ _ _ _ _ ⟨(kyA c).1, pk0, lf0, 0, [], [], (kyV c).1⟩ _ (show RdB _ _ [] from Rd.nil _ _) (show RdB _ _ [] from Rd.nil _ _) (show RdB _ _ [] from Rd.nil _ _) (show RdB _ _ [] from Rd.nil _ _) (show RdB _ _ [] from Rd.nil _ _) (show RdB _ _ [] from Rd.nil _ _) (show RdB _ _ [] from Rd.nil _ _) (show RdB _ _ [] from Rd.nil _ _) (show RdB _ _ [] from Rd.nil _ _) (show RdB _ _ [] from Rd.nil _ _) (show RdB _ _ [] from Rd.nil _ _) (show RdB _ _ [] from Rd.nil _ _) (show RdB _ _ [] from Rd.nil _ _) (show RdB _ _ [] from Rd.nil _ _) o5.rd (Nat.zero_le _) (Nat.zero_le _) (Nat.zero_le _) (Nat.zero_le _) (Nat.zero_le _) (Nat.zero_le _) (Nat.zero_le _) (Nat.zero_le _) (Nat.zero_le _) (Nat.zero_le _) (Nat.zero_le _) (Nat.zero_le _) (Nat.zero_le _) (Nat.zero_le _) hlV)) rfl ?_
      rintro w47 k40
      replace hb1 := hb1.keep0 k40
      replace rr := rr.keep0 k40
      replace o5 := o5.keep0 k40
      replace hb17 := hb17.keep0 k40
      replace hB := hB.trans k40
      refine ow_gg [(59, _)] (grd1 rfl rfl rfl hgc10) ⟨und1 rfl, trivial⟩ (fun hw30 => g_not rfl) rfl ?_
      refine ow_g (g_por rfl rfl hgc10) rfl ?_
      refine ow_nil (tw_keep [(2, _), (5, _), (61, _)] ⟨rfl, rfl, rfl, trivial⟩ ?_)
      refine tw_cond rfl (fun hc10 => ?_) (fun hc10 => ?_)
      ·
       have hd9 := hc10
       try (simp only [Bool.and_eq_true, Bool.or_eq_true, decide_eq_true_eq, Bool.and_eq_false_iff, Bool.or_eq_false_iff, decide_eq_false_iff_not, Bool.not_eq_true', Bool.not_eq_false', Bool.not_eq_true, Bool.not_eq_false, ne_eq, Decidable.not_not, decide_true, decide_false, Bool.true_and, Bool.false_and, Bool.or_false, Bool.false_or, not_true_eq_false, false_or, or_false, true_and, and_true, not_false_eq_true, reduceCtorEq] at hd9)
       refine tw_seq (tw_region (ow_g (g_bld (idx := []) (xs := []) (vs := []) (css := []) (out := [_, _, _, _, _, _, _, _, _, _, _, _, _, _, _, _, _, _, _]) pl28 ty28 rfl rfl trivial rfl rfl) rfl ?_))
       refine ow_d0 (d_sta ty28 rfl rfl rfl (by simp only [List.forall_mem_cons]; refine ⟨rfl, rfl, rfl, rfl, rfl, rfl, rfl, rfl, rfl, rfl, rfl, rfl, rfl, rfl, rfl, rfl, rfl, rfl, rfl, fun v hv => by cases hv⟩) hb1 rfl) ?_
       rintro _ w48 ⟨hb18, k41, z18⟩
       replace o5 := o5.keep k41 (fun x hx hm => sb_b1_o5 x hx (List.mem_singleton.1 hm))
       replace hb17 := hb17.keep k41 (fun hm => absurd (List.mem_singleton.1 hm) (Ne.symm ne_b1_b2))
       replace hB := hB.new k41 (fun x hx => .inl ((List.mem_singleton.1 hx) ▸ ge_b1))
       clear z18
       replace hb18 : Bk w48 b1 _ [.int .i64 0, .slice none 0 0, .slice none 0 0, .slice none 0 0, .slice none 0 0, .int .i64 0, .slice none 0 0, .slice none 0 0, .slice none 0 0, .slice none 0 0, .slice none 0 0, .slice none 0 0, .int .i64 0, .slice none 0 0, .slice none 0 0, .int .i64 0, .slice none 0 0, .slice none 0 0, .slice none 0 0] := hb18
       refine ow_g (g_as rfl) rfl (ow_nil (tw_retct hfin Try.results10 rfl (run_loadAgg ag28 ty28 hb18 rfl) rfl ?_))
       have hk : (kyA c).1 = 6 := by assumption
       obtain ⟨e1, e2, e3⟩ := ky_6 hk
       have eX : kyP c = ⟨(kyA c).1, pk0, lf0, 0, [], [], (kyV c).1⟩ := by rw [hk]; exact e1
       have hok : kgOk c = false := by
        unfold kgOk; rw [eX, e2, e3, kg_b, show (decide ((0 : Int) ≠ 0) || decide (rEnd (kyV c).2.1 (kyV c).2.2 ≠ 0) || !prOk ⟨(kyA c).1, pk0, lf0, 0, [], [], (kyV c).1⟩) = true from by assumption]; rfl
       unfold kgR kgE; rw [hok]
       exact ⟨_, _, _, _, _, _, _, _, _, _, _, _, _, _, _, rfl, own_nil _ _ _ _, own_nil _ _ _ _, own_nil _ _ _ _, own_nil _ _ _ _, own_nil _ _ _ _, own_nil _ _ _ _, own_nil _ _ _ _, own_nil _ _ _ _, own_nil _ _ _ _, own_nil _ _ _ _, own_nil _ _ _ _, own_nil _ _ _ _, own_nil _ _ _ _, own_nil _ _ _ _, own_nil _ _ _ _, hB⟩
      ·
       have hd10 := hc10
       try (simp only [Bool.and_eq_true, Bool.or_eq_true, decide_eq_true_eq, Bool.and_eq_false_iff, Bool.or_eq_false_iff, decide_eq_false_iff_not, Bool.not_eq_true', Bool.not_eq_false', Bool.not_eq_true, Bool.not_eq_false, ne_eq, Decidable.not_not, decide_true, decide_false, Bool.true_and, Bool.false_and, Bool.or_false, Bool.false_or, not_true_eq_false, false_or, or_false, true_and, and_true, not_false_eq_true, reduceCtorEq] at hd10)
       refine tw_skip (tw_seq (tw_region (ow_g (g_ldab (cs' := [_, _, _, _, _, _, _, _, _, _, _, _, _, _, _, _, _, _, _]) ag28 ty28 rfl hb17 rfl rfl) rfl ?_)))
       refine ow_d0 (d_sta ty28 rfl rfl rfl (by simp only [List.forall_mem_cons]; exact ⟨rfl, rfl, rfl, rfl, rfl, rfl, rfl, rfl, rfl, rfl, rfl, rfl, rfl, rfl, rfl, rfl, rfl, rfl, (Own.rd o5).one, fun v hv => by cases hv⟩) hb1 rfl) ?_
       rintro _ w49 ⟨hb19, k42, z19⟩
       replace o5 := o5.keep k42 (fun x hx hm => sb_b1_o5 x hx (List.mem_singleton.1 hm))
       replace hb17 := hb17.keep k42 (fun hm => absurd (List.mem_singleton.1 hm) (Ne.symm ne_b1_b2))
       replace hB := hB.new k42 (fun x hx => .inl ((List.mem_singleton.1 hx) ▸ ge_b1))
       clear z19
       replace hb19 : Bk w49 b1 _ [.int .i64 (kyA c).1, .slice none 0 0, .slice none 0 0, .slice none 0 0, .slice none 0 0, .int .i64 0, .slice none 0 0, .slice none 0 0, .slice none 0 0, .slice none 0 0, .slice none 0 0, .slice none 0 0, .int .i64 0, .slice none 0 0, .slice none 0 0, .int .i64 0, .slice none 0 0, .slice none 0 0, v5] := hb19
       refine ow_g (g_as rfl) rfl (ow_nil (tw_retct hfin Try.results10 rfl (run_loadAgg ag28 ty28 hb19 rfl) rfl ?_))
       have hk : (kyA c).1 = 6 := by assumption
       obtain ⟨e1, e2, e3⟩ := ky_6 hk
       have eX : kyP c = ⟨(kyA c).1, pk0, lf0, 0, [], [], (kyV c).1⟩ := by rw [hk]; exact e1
       have hok : kgOk c = true := by
        unfold kgOk; rw [eX, e2, e3, kg_b, show (decide ((0 : Int) ≠ 0) || decide (rEnd (kyV c).2.1 (kyV c).2.2 ≠ 0) || !prOk ⟨(kyA c).1, pk0, lf0, 0, [], [], (kyV c).1⟩) = false from by assumption]; rfl
       rw [show kgR c = ⟨(kyA c).1, pk0, lf0, 0, [], [], (kyV c).1⟩ from by unfold kgR; rw [hok]; exact eX, show kgE c = 0 from by unfold kgE; rw [hok]; rfl]
       exact ⟨_, _, _, _, _, _, _, _, _, _, _, _, _, _, _, rfl, own_nil _ _ _ _, own_nil _ _ _ _, own_nil _ _ _ _, own_nil _ _ _ _, own_nil _ _ _ _, own_nil _ _ _ _, own_nil _ _ _ _, own_nil _ _ _ _, own_nil _ _ _ _, own_nil _ _ _ _, own_nil _ _ _ _, own_nil _ _ _ _, own_nil _ _ _ _, own_nil _ _ _ _, o5.lo gw_o5, hB⟩
     ·
      refine tw_skip (tw_b (tw_seq (tw_seq (tw_region (ow_g (g_mv rfl) rfl (ow_g (g_ne rfl rfl) rfl ?_))))))
      refine ow_g (g_mv rfl) rfl (ow_grp 52 false rfl (fun c11 hgc11 => ?_))
      refine ow_gg [(4, _)] (grd1 rfl rfl rfl hgc11) ⟨und0 rfl, trivial⟩ (fun hw31 => g_mv rfl) rfl ?_
      refine ow_gdk [(53, _)] (grd1 rfl rfl rfl hgc11) ⟨und1 rfl, trivial⟩ (fun hw32 => d_call (vs := [_]) rfl (rrend_any _ _ _ _ rr)) rfl ?_
      rintro w51 k44
      replace hb1 := hb1.keep0 k44
      replace rr := rr.keep0 k44
      replace hb3 := hb3.keep0 k44
      replace hB := hB.trans k44
      refine ow_gg [(54, _)] (grd1 rfl rfl rfl hgc11) ⟨und1 rfl, trivial⟩ (fun hw33 => g_ne rfl rfl) rfl ?_
      refine ow_g (g_por rfl rfl hgc11) rfl ?_
      refine ow_g (g_mv rfl) rfl (ow_grp 57 false rfl (fun c12 hgc12 => ?_))
      refine ow_gg [(5, _)] (grd1 rfl rfl rfl hgc12) ⟨und0 rfl, trivial⟩ (fun hw34 => g_ldab (cs' := [_, _, _, _, _, _, _, _, _, _, _, _, _, _, _, _, _, _, _]) ag28 ty28 rfl hb3 rfl rfl) rfl ?_
      refine ow_gdk [(58, _)] (grd1 rfl rfl rfl hgc12) ⟨und1 rfl, trivial⟩ (fun hw35 => d_call (vs := [_]) rfl (right20_any _ _ _ _ _ _ _ _ _ _ _ _ _ _ _ ⟨(kyA c).1, pk0, lf0, 0, [], [], []⟩ _ (show RdB _ _ [] from Rd.nil _ _) (show RdB _ _ [] from Rd.nil _ _) (show RdB _ _ [] from Rd.nil _ _) (show RdB _ _ [] from Rd.nil _ _) (show RdB _ _ [] from Rd.nil _ _) (show RdB _ _ [] from Rd.nil _ _) (show RdB _ _ [] from Rd.nil _ _) (show RdB _ _ [] from Rd.nil _ _) (show RdB _ _ [] from Rd.nil _ _) (show RdB _ _ [] from Rd.nil _ _) (show RdB _ _ [] from Rd.nil _ _) (show RdB _ _ [] from Rd.nil _ _) (show RdB _ _ [] from Rd.nil _ _) (show RdB _ _ [] from Rd.nil _ _) (show RdB _ _ [] from Rd.nil _ _) (Nat.zero_le _) (Nat.zero_le _) (Nat.zero_le _) (Nat.zero_le _) (Nat.zero_le _) (Nat.zero_le _) (Nat.zero_le _) (Nat.zero_le _) (Nat.zero_le _) (Nat.zero_le _) (Nat.zero_le _) (Nat.zero_le _) (Nat.zero_le _) (Nat.zero_le _) (Nat.zero_le _))) rfl ?_
      rintro w53 k46
      replace hb1 := hb1.keep0 k46
      replace rr := rr.keep0 k46
      replace hb3 := hb3.keep0 k46
      replace hB := hB.trans k46
      refine ow_gg [(59, _)] (grd1 rfl rfl rfl hgc12) ⟨und1 rfl, trivial⟩ (fun hw36 => g_not rfl) rfl ?_
      refine ow_g (g_por rfl rfl hgc12) rfl ?_
      refine ow_nil (tw_keep [(2, _), (5, _), (61, _)] ⟨rfl, rfl, rfl, trivial⟩ ?_)
      refine tw_cond rfl (fun hc11 => ?_) (fun hc11 => ?_)
      ·
       have hd11 := hc11
       try (simp only [Bool.and_eq_true, Bool.or_eq_true, decide_eq_true_eq, Bool.and_eq_false_iff, Bool.or_eq_false_iff, decide_eq_false_iff_not, Bool.not_eq_true', Bool.not_eq_false', Bool.not_eq_true, Bool.not_eq_false, ne_eq, Decidable.not_not, decide_true, decide_false, Bool.true_and, Bool.false_and, Bool.or_false, Bool.false_or, not_true_eq_false, false_or, or_false, true_and, and_true, not_false_eq_true, reduceCtorEq] at hd11)
       refine tw_seq (tw_region (ow_g (g_bld (idx := []) (xs := []) (vs := []) (css := []) (out := [_, _, _, _, _, _, _, _, _, _, _, _, _, _, _, _, _, _, _]) pl28 ty28 rfl rfl trivial rfl rfl) rfl ?_))
       refine ow_d0 (d_sta ty28 rfl rfl rfl (by simp only [List.forall_mem_cons]; refine ⟨rfl, rfl, rfl, rfl, rfl, rfl, rfl, rfl, rfl, rfl, rfl, rfl, rfl, rfl, rfl, rfl, rfl, rfl, rfl, fun v hv => by cases hv⟩) hb1 rfl) ?_
       rintro _ w54 ⟨hb20, k47, z20⟩
       replace hb3 := hb3.keep k47 (fun hm => absurd (List.mem_singleton.1 hm) (Ne.symm ne_b1_b2))
       replace hB := hB.new k47 (fun x hx => .inl ((List.mem_singleton.1 hx) ▸ ge_b1))
       clear z20
       replace hb20 : Bk w54 b1 _ [.int .i64 0, .slice none 0 0, .slice none 0 0, .slice none 0 0, .slice none 0 0, .int .i64 0, .slice none 0 0, .slice none 0 0, .slice none 0 0, .slice none 0 0, .slice none 0 0, .slice none 0 0, .int .i64 0, .slice none 0 0, .slice none 0 0, .int .i64 0, .slice none 0 0, .slice none 0 0, .slice none 0 0] := hb20
       refine ow_g (g_as rfl) rfl (ow_nil (tw_retct hfin Try.results10 rfl (run_loadAgg ag28 ty28 hb20 rfl) rfl ?_))
       obtain ⟨e1, e2, e3⟩ := ky_n (c := c) ‹_› ‹_› ‹_› ‹_› ‹_›
       have eX : kyP c = ⟨(kyA c).1, pk0, lf0, 0, [], [], []⟩ := e1
       have hok : kgOk c = false := by
        unfold kgOk; rw [eX, e2, e3, kg_b, show (decide ((0 : Int) ≠ 0) || decide (rEnd (kyA c).2.1 (kyA c).2.2 ≠ 0) || !prOk ⟨(kyA c).1, pk0, lf0, 0, [], [], []⟩) = true from by assumption]; rfl
       unfold kgR kgE; rw [hok]
       exact ⟨_, _, _, _, _, _, _, _, _, _, _, _, _, _, _, rfl, own_nil _ _ _ _, own_nil _ _ _ _, own_nil _ _ _ _, own_nil _ _ _ _, own_nil _ _ _ _, own_nil _ _ _ _, own_nil _ _ _ _, own_nil _ _ _ _, own_nil _ _ _ _, own_nil _ _ _ _, own_nil _ _ _ _, own_nil _ _ _ _, own_nil _ _ _ _, own_nil _ _ _ _, own_nil _ _ _ _, hB⟩
      ·
       have hd12 := hc11
       try (simp only [Bool.and_eq_true, Bool.or_eq_true, decide_eq_true_eq, Bool.and_eq_false_iff, Bool.or_eq_false_iff, decide_eq_false_iff_not, Bool.not_eq_true', Bool.not_eq_false', Bool.not_eq_true, Bool.not_eq_false, ne_eq, Decidable.not_not, decide_true, decide_false, Bool.true_and, Bool.false_and, Bool.or_false, Bool.false_or, not_true_eq_false, false_or, or_false, true_and, and_true, not_false_eq_true, reduceCtorEq] at hd12)
       refine tw_skip (tw_seq (tw_region (ow_g (g_ldab (cs' := [_, _, _, _, _, _, _, _, _, _, _, _, _, _, _, _, _, _, _]) ag28 ty28 rfl hb3 rfl rfl) rfl ?_)))
       refine ow_d0 (d_sta ty28 rfl rfl rfl (by simp only [List.forall_mem_cons]; refine ⟨rfl, rfl, rfl, rfl, rfl, rfl, rfl, rfl, rfl, rfl, rfl, rfl, rfl, rfl, rfl, rfl, rfl, rfl, rfl, fun v hv => by cases hv⟩) hb1 rfl) ?_
       rintro _ w55 ⟨hb21, k48, z21⟩
       replace hb3 := hb3.keep k48 (fun hm => absurd (List.mem_singleton.1 hm) (Ne.symm ne_b1_b2))
       replace hB := hB.new k48 (fun x hx => .inl ((List.mem_singleton.1 hx) ▸ ge_b1))
       clear z21
       replace hb21 : Bk w55 b1 _ [.int .i64 (kyA c).1, .slice none 0 0, .slice none 0 0, .slice none 0 0, .slice none 0 0, .int .i64 0, .slice none 0 0, .slice none 0 0, .slice none 0 0, .slice none 0 0, .slice none 0 0, .slice none 0 0, .int .i64 0, .slice none 0 0, .slice none 0 0, .int .i64 0, .slice none 0 0, .slice none 0 0, .slice none 0 0] := hb21
       refine ow_g (g_as rfl) rfl (ow_nil (tw_retct hfin Try.results10 rfl (run_loadAgg ag28 ty28 hb21 rfl) rfl ?_))
       obtain ⟨e1, e2, e3⟩ := ky_n (c := c) ‹_› ‹_› ‹_› ‹_› ‹_›
       have eX : kyP c = ⟨(kyA c).1, pk0, lf0, 0, [], [], []⟩ := e1
       have hok : kgOk c = true := by
        unfold kgOk; rw [eX, e2, e3, kg_b, show (decide ((0 : Int) ≠ 0) || decide (rEnd (kyA c).2.1 (kyA c).2.2 ≠ 0) || !prOk ⟨(kyA c).1, pk0, lf0, 0, [], [], []⟩) = false from by assumption]; rfl
       rw [show kgR c = ⟨(kyA c).1, pk0, lf0, 0, [], [], []⟩ from by unfold kgR; rw [hok]; exact eX, show kgE c = 0 from by unfold kgE; rw [hok]; rfl]
       exact ⟨_, _, _, _, _, _, _, _, _, _, _, _, _, _, _, rfl, own_nil _ _ _ _, own_nil _ _ _ _, own_nil _ _ _ _, own_nil _ _ _ _, own_nil _ _ _ _, own_nil _ _ _ _, own_nil _ _ _ _, own_nil _ _ _ _, own_nil _ _ _ _, own_nil _ _ _ _, own_nil _ _ _ _, own_nil _ _ _ _, own_nil _ _ _ _, own_nil _ _ _ _, own_nil _ _ _ _, hB⟩
end Go.Proofs.Ytonchmcppekldaa.W
set_option linter.unusedVariables false
set_option linter.unusedSimpArgs false
namespace Go.Eng
open Go
section
variable {P : Program} {n : NN} {fin : Exit → Act → World → Prop} {k : List KI} {f : Fr} {w : World}
def updV (vs : Nat → Value) (i : Nat) (v : Value) : Nat → Value := fun j => bif Nat.beq j i then v else vs j
def ObV (P : Program) (n : NN) (l : List Oper) (f0 : Fr) (S : Nat → Value → Prop) (J : (Nat → Bool) → (Nat → Value) → World → Prop) (i : Nat) (o : Oper) : Prop :=
  ∃ deps : List Nat, depOk l i deps = true ∧ ∀ (L : Nat → Bool) (w : World) (vs : Nat → Value), L i = false → (∀ j, j ∈ deps → L j = true) → J L vs w → (∀ j, j ∈ deps → S j (vs j)) →
    ∃ c : Bool, (∀ a, Kn n (depFr l vs deps ++ f0) a → Region.wanted o (yielded l.toArray a.tmps) = c) ∧
      (c = true → Does P n (depFr l vs deps ++ f0) w o.op o.type (fun v w' => S i v ∧ J (updL L i) (updV vs i v) w')) ∧ (c = false → S i undef ∧ J (updL L i) (updV vs i undef) w)
def ObsV (P : Program) (n : NN) (l : List Oper) (f0 : Fr) (S : Nat → Value → Prop) (J : (Nat → Bool) → (Nat → Value) → World → Prop) : Nat → List Oper → Prop
  | _, [] => True
  | i, o :: r => ObV P n l f0 S J i o ∧ ObsV P n l f0 S J (i + 1) r
theorem ObsV.get {l : List Oper} {f0 : Fr} {S : Nat → Value → Prop} {J : (Nat → Bool) → (Nat → Value) → World → Prop} : ∀ {r : List Oper} {i : Nat}, ObsV P n l f0 S J i r → ∀ (k : Nat) (o : Oper), r[k]? = some o → ObV P n l f0 S J (i + k) o
  | [], _, _, k, o, h => by simp at h
  | x :: r, i, ⟨h1, h2⟩, 0, o, h => by simp at h; subst h; exact h1
  | x :: r, i, ⟨h1, h2⟩, k + 1, o, h => by
    have := ObsV.get h2 k o (by simpa using h)
    rwa [Nat.add_assoc, Nat.add_comm 1 k] at this
theorem tw_drawnV {id : Nat} {l : List Oper} (p : Nat) (hm : P.follows .mixedOrders = true) (f0 : Fr) (S : Nat → Value → Prop) (J : (Nat → Bool) → (Nat → Value) → World → Prop) (hf : Fr.sub f0 f) (hok : drawOk n l = true) (ht : tailOk2 l p = true) (hfree0 : freeOk (l.take p) f0 = true)
    (hJ0 : ∀ vs, J (fun _ => false) vs w.drew) (hJc : ∀ L vs vs' w', (∀ j, L j = true → hasDst l j = true → vs j = vs' j) → J L vs w' → J L vs' w')
    (hob : ObsV P n l f0 S J 0 (l.take p))
    (h : ∀ w' L, (∀ i, i < p → L i = true) → ∀ vs : Nat → Value, J L vs w' → (∀ i, i < p → hasDst l i = true → S i (vs i)) → OW P fin n k l.toArray (l.drop p) (depFr l vs ((List.range p).filter (hasDst l)) ++ f0) w') :
    TW P fin n (.c (.region id l.toArray true) :: k) f w := by
  intro a ha
  simp only [KQ]
  have ha0 := ha.sub hf
  have hfree : ∀ i, i < p → i < l.length → hasDst l i = true → f0.get (dstOf l i) = none := by
    intro i hi hl hd
    have e1 : dstOf (l.take p) i = dstOf l i := by unfold dstOf; rw [List.getElem?_take, if_pos hi]
    have e2 : hasDst (l.take p) i = hasDst l i := by unfold hasDst; rw [List.getElem?_take, if_pos hi]
    rw [← e1]
    exact get_none_of_free (l := l.take p) (by rw [List.length_take]; omega) (by rw [e2]; exact hd) hfree0
  refine wp_region_any hm ?_
  have hpl : p ≤ l.length := by simp only [tailOk2, Bool.and_eq_true] at ht; exact Nat.le_of_ble_eq_true ht.1.1
  have hend : ∀ (fuel : Nat) (listed : Array Bool) (L : Nat → Bool) (a : Act) (w' : World), listed.size = l.length → left l.length listed ≤ fuel → Kn n f0 a → (∀ i, L i = listed.getD i false) → J L (fun i => a.tmps.getD (dstOf l i) undef) w' → (∀ i, i < l.length → listed.getD i false = decide (i < p)) →
      (∀ i, listed.getD i false = true → i < l.length ∧ (hasDst l i = true → S i (a.tmps.getD (dstOf l i) undef))) → wpAny P .any l.toArray (KQ P fin k) fuel listed a w' := by
    intro fuel listed L a w' hs hle hk hL hw hall hS
    refine wpAny_tail2 hok ht (l.length - p) p fuel listed a w' rfl hpl (Nat.le_refl _) ?_ hs hall ?_
    · refine Nat.le_trans ?_ hle
      unfold left
      have e1 : l.length - p = ((List.range' p (l.length - p)).countP fun i => !listed.getD i true) := by
        rw [List.countP_eq_length.2 (fun i hi => ?_)]
        · simp
        · rw [List.mem_range'_1] at hi
          rw [getD_lists hs (by omega) true false, hall i (by omega)]; simp; omega
      rw [e1]
      have e2 : List.range l.length = List.range p ++ List.range' p (l.length - p) := by
        have e3 := List.range'_append_1 (s := 0) (m := p) (n := l.length - p)
        rw [Nat.zero_add] at e3
        rw [List.range_eq_range', List.range_eq_range', e3]; congr 1; omega
      rw [e2, List.countP_append]; omega
    · refine h w' L (fun i hi => by rw [hL, hall i (by omega)]; simpa using hi) (fun i => a.tmps.getD (dstOf l i) undef) hw (fun i hi => (hS i (by rw [hall i (by omega)]; simpa using hi)).2) a (Kn.app ?_ hk)
      intro q hq
      obtain ⟨j, _, rfl⟩ := mem_depFr hq
      rfl
  have key : ∀ (fuel : Nat) (listed : Array Bool) (L : Nat → Bool) (a : Act) (w' : World), listed.size = l.length → (∀ i, L i = listed.getD i false) → left l.length listed ≤ fuel → Kn n f0 a → J L (fun i => a.tmps.getD (dstOf l i) undef) w' → (∀ i, p ≤ i → i < l.length → listed.getD i false = false) → (∀ m j, listed.getD m false = true → depB l m j = true → listed.getD j false = true) →
      (∀ i, listed.getD i false = true → i < l.length ∧ (hasDst l i = true → S i (a.tmps.getD (dstOf l i) undef))) → wpAny P .any l.toArray (KQ P fin k) fuel listed a w' := by
    intro fuel
    induction fuel with
    | zero =>
      intro listed L a w' hs hL hle hk hw hun hcl hS
      refine hend 0 listed L a w' hs hle hk hL hw (fun i hi => ?_) hS
      cases hc : listed.getD i false with
      | true => by_cases h1 : i < p
                · simp [h1]
                · rw [hun i (by omega) hi] at hc; cases hc
      | false =>
        exfalso
        have := left_set hi hs (by rw [getD_lists hs hi true false]; exact hc)
        omega
    | succ fuel ih =>
      intro listed L a w' hs hL hle hk hw hun hcl hS
      by_cases hfull : ∀ i, i < p → listed.getD i false = true
      · refine hend (fuel + 1) listed L a w' hs hle hk hL hw (fun i hi => ?_) hS
        by_cases h1 : i < p
        · rw [hfull i h1]; simp [h1]
        · rw [hun i (by omega) hi]; simp [h1]
      · obtain ⟨q, hq⟩ := Classical.not_forall.1 hfull
        obtain ⟨hq1, hq2⟩ := Classical.not_imp.1 hq
        have hq2 : listed.getD q false = false := eq_false_of_ne_true hq2
        refine ⟨fun hr => (by
          have := all_listed hok rfl hs hr q (by omega)
          rw [hq2] at this; cases this), fun i hi => ?_⟩
        obtain ⟨h0, o, ho, hedge⟩ := mem_ready.1 hi
        have ho' : l[i]? = some o := by simpa using ho
        have hlt : i < l.length := (List.getElem?_eq_some_iff.1 ho').1
        have hip : i < p := by
          rcases Nat.lt_or_ge i p with h1 | h1
          · exact h1
          · exfalso
            have hdepl : ∀ j, depB l i j = true → listed.getD j false = true := by
              intro j hd
              obtain ⟨o', ho2, e, he, h3, h4⟩ := dep_edge hd
              rw [ho'] at ho2
              obtain rfl := Option.some.inj ho2
              have := hedge e he h4
              rwa [h3] at this
            rcases Nat.lt_or_ge p i with h8 | h8
            · have := hdepl _ (tail2_next ht hlt h8)
              rw [hun (i - 1) (by omega) (by omega)] at this; cases this
            · have hpi : i = p := by omega
              have := tail2_all (S := fun j => listed.getD j false = true) ht (by omega) (fun m j hm hd => hm.elim (fun e => hdepl j (by rw [hpi, ← e]; exact hd)) (fun hl => hcl m j hl hd)) _ q hq1 rfl
              rw [hq2] at this; cases this
        have hobi := ObsV.get hob i o (by rw [List.getElem?_take, if_pos hip]; exact ho')
        rw [Nat.zero_add] at hobi
        obtain ⟨deps, hdep, hobl⟩ := hobi
        have h1 := List.all_eq_true.1 hok i (List.mem_range.2 hlt)
        simp only [ho', Bool.and_eq_true] at h1
        obtain ⟨⟨hd2, _⟩, hd4⟩ := h1
        have hLi : L i = false := by rw [hL, getD_lists hs hlt false true]; exact h0
        have hdl : ∀ j, j ∈ deps → listed.getD j false = true := by
          intro j hj
          have h2 := List.all_eq_true.1 hdep j hj
          simp only [ho', Bool.and_eq_true] at h2
          obtain ⟨e, he, h3⟩ := List.any_eq_true.1 h2.2
          simp only [Bool.and_eq_true, beq_iff_eq] at h3
          have := hedge e (Array.mem_toList_iff.1 he) h3.2
          rwa [h3.1] at this
        have hdeps : ∀ j, j ∈ deps → S j (a.tmps.getD (dstOf l j) undef) := by
          intro j hj
          have h2 := List.all_eq_true.1 hdep j hj
          simp only [ho', Bool.and_eq_true] at h2
          exact (hS j (hdl j hj)).2 h2.1
        obtain ⟨c, hc1, hc2, hc3⟩ := hobl L w' (fun j => a.tmps.getD (dstOf l j) undef) hLi (fun j hj => by rw [hL]; exact hdl j hj) hw hdeps
        have hkd : Kn n (depFr l (fun j => a.tmps.getD (dstOf l j) undef) deps ++ f0) a := Kn.app (fun p hp => by
          obtain ⟨j, _, rfl⟩ := mem_depFr hp; rfl) hk
        have hL' : ∀ j, updL L i j = (listed.setIfInBounds i true).getD j false := by
          intro j
          unfold updL
          by_cases hij : j = i
          · subst hij
            have : Nat.beq j j = true := Nat.beq_refl j
            rw [this, Array.getD_eq_getD_getElem?]
            simp [hs, hlt]
          · have : Nat.beq j i = false := by
              cases hb : Nat.beq j i with
              | false => rfl
              | true => exact absurd (Nat.eq_of_beq_eq_true hb) hij
            rw [this, getD_set_ne false (Ne.symm hij), cond_false, hL]
        have hleft := left_set hlt hs h0
        have hun' : ∀ j, p ≤ j → j < l.length → (listed.setIfInBounds i true).getD j false = false := fun j h1 h2 => by rw [getD_set_ne false (by omega)]; exact hun j h1 h2
        have hcl' : ∀ m j, (listed.setIfInBounds i true).getD m false = true → depB l m j = true → (listed.setIfInBounds i true).getD j false = true := by
          intro m j hm hd
          have hone : (listed.setIfInBounds i true).getD i false = true := by rw [Array.getD_eq_getD_getElem?]; simp [hs, hlt]
          have hup : listed.getD j false = true → (listed.setIfInBounds i true).getD j false = true := by
            intro h
            by_cases hij : i = j
            · subst hij; exact hone
            · rw [getD_set_ne false hij]; exact h
          by_cases him : i = m
          · subst him
            obtain ⟨o', ho2, e, he, h3, h4⟩ := dep_edge hd
            rw [ho'] at ho2
            obtain rfl := Option.some.inj ho2
            have := hedge e he h4
            rw [h3] at this
            exact hup this
          · rw [getD_set_ne false him] at hm
            exact hup (hcl m j hm hd)
        have hnext : ∀ v w2, S i v → J (updL L i) (updV (fun j => a.tmps.getD (dstOf l j) undef) i v) w2 → wpAny P .any l.toArray (KQ P fin k) fuel (listed.setIfInBounds i true) (a.put o.dst v) w2 := by
          intro v w2 hSv hJv
          cases hod : o.dst with
          | none =>
            refine ih _ (updL L i) _ _ (by simpa using hs) hL' (by omega) hk (hJc _ _ _ _ (fun j hj hdj => ?_) hJv) hun' hcl' ?_
            · have hji : Nat.beq j i = false := by
                cases hb : Nat.beq j i with
                | false => rfl
                | true =>
                  have := Nat.eq_of_beq_eq_true hb; subst this
                  simp [hasDst, ho', hod] at hdj
              show (bif Nat.beq j i then v else a.tmps.getD (dstOf l j) undef) = a.tmps.getD (dstOf l j) undef
              rw [hji]; rfl
            · intro j hj
              by_cases hij : i = j
              · subst hij
                exact ⟨hlt, fun hd => by simp [hasDst, ho', hod] at hd⟩
              · rw [getD_set_ne false hij] at hj
                exact hS j hj
          | some d =>
            have hdd : dstOf l i = d := by simp [dstOf, ho', hod]
            have hhd : hasDst l i = true := by simp [hasDst, ho', hod]
            rw [hdd] at hd2
            have hdn : d < n := blt_lt hd2
            have hsame : (a.put (some d) v).tmps.getD d undef = v := by simp [Act.put, Array.getD_eq_getD_getElem?, hk.size, hdn]
            have hother : ∀ j, i ≠ j → j < l.length → hasDst l j = true → (a.put (some d) v).tmps.getD (dstOf l j) undef = a.tmps.getD (dstOf l j) undef := by
              intro j hij hjl hdj
              have hne : d ≠ dstOf l j := by
                rw [hod] at hd4
                have h6 : ∀ x, x < l.length → (i = x ∨ ¬ dstOf l i = dstOf l x) ∨ hasDst l x = false := by simpa using hd4
                rcases h6 j hjl with (h7 | h7) | h7
                · exact absurd h7 hij
                · rwa [hdd] at h7
                · rw [hdj] at h7; cases h7
              simp only [Act.put, Array.getD_eq_getD_getElem?]; rw [Array.getElem?_setIfInBounds_ne hne]
            refine ih _ (updL L i) _ _ (by simpa using hs) hL' (by omega) (hk.putOther (by rw [← hdd]; exact hfree i hip hlt hhd) v) (hJc _ _ _ _ (fun j hj hdj => ?_) hJv) hun' hcl' ?_
            · by_cases hij : i = j
              · subst hij
                show (bif Nat.beq i i then v else _) = _
                rw [Nat.beq_refl, cond_true, hdd, hsame]
              · have hji : Nat.beq j i = false := by
                  cases hb : Nat.beq j i with
                  | false => rfl
                  | true => exact absurd (Nat.eq_of_beq_eq_true hb).symm hij
                have hj2 : listed.getD j false = true := by
                  have := hL' j; rw [hj, getD_set_ne false hij] at this; exact this.symm
                show (bif Nat.beq j i then v else a.tmps.getD (dstOf l j) undef) = _
                rw [hji, cond_false, hother j hij (hS j hj2).1 hdj]
            · intro j hj
              by_cases hij : i = j
              · subst hij
                refine ⟨hlt, fun _ => ?_⟩
                rw [hdd, hsame]; exact hSv
              · rw [getD_set_ne false hij] at hj
                obtain ⟨hjl, hSj⟩ := hS j hj
                exact ⟨hjl, fun hdj => by rw [hother j hij hjl hdj]; exact hSj hdj⟩
        unfold wpOp
        rw [ho]
        simp only
        rw [hc1 a hkd]
        cases c with
        | true =>
          rw [if_pos rfl]
          exact .inl (hc2 rfl a hkd o.dst o.pos o.after o.guard _ _ (fun v w2 hv => hnext v w2 hv.1 hv.2))
        | false =>
          rw [if_neg (by simp)]
          exact hnext undef w' (hc3 rfl).1 (hc3 rfl).2
  refine key _ _ (fun _ => false) a _ (by simp) ?_ ?_ ha0 (hJ0 _) ?_ ?_ ?_
  · intro i
    rw [Array.getD_eq_getD_getElem?]
    rcases Nat.lt_or_ge i l.toArray.size with h' | h'
    · rw [Array.getElem?_eq_getElem (by simpa using h')]; simp
    · rw [Array.getElem?_eq_none (by simpa using h')]; rfl
  · unfold left
    have := List.countP_le_length (p := fun i => !(Array.replicate l.toArray.size false).getD i true) (l := List.range l.length)
    simpa using this
  · intro i _ hi
    rw [Array.getD_eq_getD_getElem?, Array.getElem?_eq_getElem (by simpa using hi)]; simp
  · intro i j hi
    exfalso
    rw [Array.getD_eq_getD_getElem?] at hi
    rcases Nat.lt_or_ge i l.toArray.size with h' | h'
    · rw [Array.getElem?_eq_getElem (by simpa using h')] at hi; simp at hi
    · rw [Array.getElem?_eq_none (by simpa using h')] at hi; simp at hi
  · intro i hi
    exfalso
    rw [Array.getD_eq_getD_getElem?] at hi
    rcases Nat.lt_or_ge i l.toArray.size with h' | h'
    · rw [Array.getElem?_eq_getElem (by simpa using h')] at hi; simp at hi
    · rw [Array.getElem?_eq_none (by simpa using h')] at hi; simp at hi
end
open Go.MapKept Go.ChangeMaps
def MpI (vl : Int → Bool) (ks : Int → Prop) (es : Array MapEntry) (clock : Nat) : Prop :=
  Stamped es clock ∧ (∀ e ∈ es.toList, ∃ x : Int, e.key = .int .i64 x ∧ e.val = .bool (vl x)) ∧ ∀ x, ks x → ∃ e ∈ es.toList, e.key = .int .i64 x
def MpB (w : World) (m : Nat) (vl : Int → Bool) (ks : Int → Prop) : Prop := ∃ es clock, w.heap[m]? = some (.map es clock) ∧ MpI vl ks es clock
theorem MpB.lt {w : World} {m : Nat} {vl : Int → Bool} {ks : Int → Prop} (h : MpB w m vl ks) : m < w.heap.size := by
  obtain ⟨es, c, h, _⟩ := h
  exact (Array.getElem?_eq_some_iff.1 h).1
theorem MpB.keep {S : List Nat} {w w' : World} {m : Nat} {vl : Int → Bool} {ks : Int → Prop} (h : MpB w m vl ks) (k : Keep S w w') (hn : m ∉ S) : MpB w' m vl ks := by
  have hl := h.lt
  obtain ⟨es, c, h, h2⟩ := h
  exact ⟨es, c, by rw [k.block m hl hn]; exact h, h2⟩
theorem MpB.sub {w : World} {m : Nat} {vl : Int → Bool} {ks ks' : Int → Prop} (h : MpB w m vl ks) (hs : ∀ x, ks' x → ks x) : MpB w m vl ks' := by
  obtain ⟨es, c, h, h1, h2, h3⟩ := h
  exact ⟨es, c, h, h1, h2, fun x hx => h3 x (hs x hx)⟩
theorem mpB_new (w : World) (vl : Int → Bool) (ks : Int → Prop) (hk : ∀ x, ¬ ks x) : MpB (w.alloc (.map #[] 0)) w.heap.size vl ks :=
  ⟨#[], 0, (heap_alloc w _).1, stamped_empty 0, (by simp), fun x hx => absurd hx (hk x)⟩
theorem al_new (w : World) (o : Obj) : (w.alloc o).heap[w.heap.size]? = some o := by
  show (w.heap.push o)[w.heap.size]? = _
  simp
theorem al_old (w : World) (o : Obj) {r : Nat} (h : r < w.heap.size) : (w.alloc o).heap[r]? = w.heap[r]? := by
  show (w.heap.push o)[r]? = _
  rw [Array.getElem?_push_lt h, Array.getElem?_eq_getElem h]
theorem keep_setBlock (w : World) (m : Nat) (o : Obj) : Keep [m] w (setBlock w m o) :=
  ⟨rfl, rfl, rfl, by simp [setBlock], fun k _ hn => by
    have : m ≠ k := fun e => hn (by simp [e])
    simp [setBlock, this]⟩
section
variable {P : Program} {n : NN} {f : Fr} {w : World} {ty : TypeId}
theorem run_ins {t kt et : TypeId} {m : Nat} {vl : Int → Bool} {ks : Int → Prop} {x : Int} (ht : P.underlying t = some (.map kt et)) (hk : P.underlying kt = some (.int .i64)) (h : MpB w m vl ks) :
    ∃ w', (Instr.mapUpdate t (.map (some m)) (.int .i64 x) (.bool (vl x))).run P w = .ok () w' ∧ Keep [m] w w' ∧ MpB w' m vl (fun y => y = x ∨ ks y) := by
  obtain ⟨es, clock, hb, hs, hv, hks⟩ := h
  have hkey : ∀ e ∈ es.toList, IsKey (.int .i64) e.key := fun e he => by obtain ⟨y, hy, _⟩ := hv e he; rw [hy]; rfl
  have hx : IsKey (.int .i64) (.int .i64 x) := rfl
  rcases findNow_spec hx es.toList 0 hkey with ⟨h1, h2⟩ | ⟨j, e, h1, h2, h3⟩
  · refine ⟨setBlock w m (.map (es.push { key := .int .i64 x, val := .bool (vl x), born := clock }) (clock + 1)), ?_, keep_setBlock _ _ _, _, _, (heap_set hb).1, stamped_push hs h2, ?_, ?_⟩
    · simp [Instr.mapUpdate, run_underlying ht, MapKept.run_getObj_map hb, run_checkKey hk hx, run_findKey hk h1, MapKept.run_setObj_map _ hb, Result.andThen, setBlock]
    · intro e he
      simp only [Array.toList_push, List.mem_append, List.mem_singleton] at he
      rcases he with he | rfl
      · exact hv e he
      · exact ⟨x, rfl, rfl⟩
    · intro y hy
      simp only [Array.toList_push, List.mem_append, List.mem_singleton]
      rcases hy with rfl | hy
      · exact ⟨_, .inr rfl, rfl⟩
      · obtain ⟨e, he, hk2⟩ := hks y hy
        exact ⟨e, .inl he, hk2⟩
  · have hj : es[j]? = some e := by simpa using h2
    have hkk : ∀ e', es[j]? = some e' → ({ e' with key := .int .i64 x, val := .bool (vl x) } : MapEntry).key = e'.key := fun e' he' => by rw [hj] at he'; cases he'; exact h3.symm
    refine ⟨setBlock w m (.map (es.modify j fun e => { e with key := .int .i64 x, val := .bool (vl x) }) clock), ?_, keep_setBlock _ _ _, _, _, (heap_set hb).1, stamped_modify hs _ _ (fun _ _ => rfl) (fun e' _ he' => hkk e' he'), ?_, ?_⟩
    · simp [Instr.mapUpdate, run_underlying ht, MapKept.run_getObj_map hb, run_checkKey hk hx, run_findKey hk h1, hj, h3, run_keyThatStays hx, MapKept.run_setObj_map _ hb, Result.andThen, setBlock]
    · intro e' he'
      rcases Go.MapFrom.mem_modify he' with he' | ⟨e2, he2, rfl⟩
      · exact hv e' he'
      · exact ⟨x, rfl, rfl⟩
    · intro y hy
      have hm : (es.modify j fun e => { e with key := .int .i64 x, val := .bool (vl x) }).toList.map (·.key) = es.toList.map (·.key) := modify_keys j _ hkk
      have : (Value.int .i64 y) ∈ es.toList.map (·.key) := by
        rcases hy with rfl | hy
        · exact List.mem_map.2 ⟨e, Go.MapFrom.at_mem hj, h3⟩
        · obtain ⟨e2, he2, hk2⟩ := hks y hy
          exact List.mem_map.2 ⟨e2, he2, hk2⟩
      rw [← hm] at this
      obtain ⟨e2, he2, hk2⟩ := List.mem_map.1 this
      exact ⟨e2, he2, hk2⟩
theorem d_ins {t kt et : TypeId} {x y z : Operand} {m : Nat} {vl : Int → Bool} {ks : Int → Prop} {a : Int} {b : Bool} (ht : P.underlying t = some (.map kt et)) (hk : P.underlying kt = some (.int .i64)) (hx : f.ev x = some (.map (some m))) (hy : f.ev y = some (.int .i64 a)) (hz : f.ev z = some (.bool b)) (hb : b = vl a) (h : MpB w m vl ks) :
    Does P n f w (.insert t x y z) ty (fun _ w' => Keep [m] w w' ∧ MpB w' m vl (fun y => y = a ∨ ks y)) := by
  subst hb
  intro ac ha dst pos aft g K Q hK
  obtain ⟨w', hrun, h1, h2⟩ := run_ins (x := a) ht hk h
  unfold Oper.wp
  simp [execOp, ha.ev hx, ha.ev hy, ha.ev hz, hrun, Result.andThen]
  exact hK _ _ ⟨h1, h2⟩
theorem d_mkm {t : TypeId} (vl : Int → Bool) : Does P n f w (.makeMap t none) ty (fun v w' => v = .map (some w.heap.size) ∧ Keep [] w w' ∧ ∀ ks : Int → Prop, (∀ x, ¬ ks x) → MpB w' w.heap.size vl ks) := by
  intro ac ha dst pos aft g K Q hK
  unfold Oper.wp
  have hrun : (Instr.makeMap t none).run P w = .ok (.map (some w.heap.size)) (w.alloc (.map #[] 0)) := by simp [Instr.makeMap, Result.andThen]
  simp [execOp, hrun, Result.andThen]
  exact hK _ _ ⟨rfl, keep_alloc _ _, fun ks hk => mpB_new _ _ _ hk⟩
def MpR (w : World) (m r : Nat) (vl : Int → Bool) (ks : Int → Prop) (Q : Int → Prop) (c : Nat) : Prop :=
  ∃ (es : Array MapEntry) (clock since : Nat) (seen : Array Nat) (c0 : Nat), w.heap[m]? = some (.map es clock) ∧ MpI vl ks es clock ∧ w.heap[r]? = some (.mapIter (some m) since seen c0) ∧ (∀ x ∈ es.toList, x.born < since) ∧ since ≤ c0 ∧ since ≤ clock ∧ (leftOf es seen).size ≤ c ∧
    ∀ e ∈ es.toList, seen.contains e.born = true → ∀ x, e.key = .int .i64 x → Q x
def MpE (w : World) (m r : Nat) (vl : Int → Bool) (ks : Int → Prop) (Q : Int → Prop) (x : Int) (c : Nat) : Prop :=
  ∃ (es : Array MapEntry) (clock since : Nat) (seen : Array Nat), ∃ e ∈ es.toList, e.key = .int .i64 x ∧ e.val = .bool (vl x) ∧ w.heap[m]? = some (.map es clock) ∧ MpI vl ks es clock ∧ w.heap[r]? = some (.mapIter (some m) since (seen.push e.born) clock) ∧ (∀ x ∈ es.toList, x.born < since) ∧ since ≤ clock ∧ (leftOf es (seen.push e.born)).size ≤ c ∧
    ∀ e ∈ es.toList, seen.contains e.born = true → ∀ x, e.key = .int .i64 x → Q x
theorem MpR.keep {S : List Nat} {w w' : World} {m r c1 : Nat} {vl : Int → Bool} {ks Q : Int → Prop} (h : MpR w m r vl ks Q c1) (k : Keep S w w') (hm : m ∉ S) (hr : r ∉ S) : MpR w' m r vl ks Q c1 := by
  obtain ⟨es, c, si, se, c0, h1, h2, h3, h4⟩ := h
  exact ⟨es, c, si, se, c0, by rw [k.block m (Array.getElem?_eq_some_iff.1 h1).1 hm]; exact h1, h2, by rw [k.block r (Array.getElem?_eq_some_iff.1 h3).1 hr]; exact h3, h4⟩
theorem d_rng {t kt et : TypeId} {x : Operand} {m : Nat} {vl : Int → Bool} {ks : Int → Prop} (Q : Int → Prop) (ht : P.underlying t = some (.map kt et)) (hx : f.ev x = some (.map (some m))) (h : MpB w m vl ks) :
    Does P n f w (.range t x) ty (fun v w' => ∃ r, v = .pointer (some ⟨r, 0, none⟩) ∧ w.heap.size ≤ r ∧ Keep [] w w' ∧ ∃ c, MpR w' m r vl ks Q c) := by
  have hl := h.lt
  obtain ⟨es, clock, hb, hI⟩ := h
  intro ac ha dst pos aft g K Q' hK
  unfold Oper.wp
  have hrun := run_range_map (P := P) w t kt et m es clock ht hb
  simp [execOp, ha.ev hx, hrun, Result.andThen]
  refine hK _ _ ⟨_, rfl, Nat.le_refl _, keep_alloc _ _, _, es, clock, clock, #[], clock, ?_, hI, al_new _ _, hI.1.1, Nat.le_refl _, Nat.le_refl _, Nat.le_refl _, fun e he hs => by simp at hs⟩
  rw [al_old _ _ hl]; exact hb
theorem d_nxt {x : Operand} {m r c : Nat} {vl : Int → Bool} {ks Q : Int → Prop} (hx : f.ev x = some (.pointer (some ⟨r, 0, none⟩))) (hne : m ≠ r) (h : MpR w m r vl ks Q c) :
    Does P n f w (.next x false) ty (fun v w' => (v = .tuple [.bool false].toArray ∧ w' = w ∧ ∀ x, ks x → Q x) ∨ (∃ y, v = .tuple [.bool true, .int .i64 y, .bool (vl y)].toArray ∧ Keep [r] w w' ∧ ∃ c', c' < c ∧ MpE w' m r vl ks Q y c')) := by
  obtain ⟨es, clock, since, seen, c0, hb, hI, hr, hold, hsc, hsk, hle, hQ⟩ := h
  intro ac ha dst pos aft g K Q' hK
  unfold Oper.wp
  rcases run_next_at (P := P) w ty r m since c0 seen es clock hr hb hold hsc with ⟨h0, hrun⟩ | ⟨e, he, w1, hal, hrun⟩
  · simp [execOp, ha.ev hx, hrun, Result.andThen]
    refine hK _ _ (.inl ⟨rfl, rfl, fun y hy => ?_⟩)
    obtain ⟨e, he, hk⟩ := hI.2.2 y hy
    refine hQ e he ?_ y hk
    cases hc : seen.contains e.born with
    | true => rfl
    | false =>
      exfalso
      have : e ∈ (leftOf es seen).toList := by unfold leftOf; simp; exact ⟨by simpa using he, by simpa using hc⟩
      have h9 := List.length_pos_of_mem this
      simp at h9; omega
  · have hem : e ∈ es.toList := by unfold leftOf at he; simp at he; simpa using he.1
    obtain ⟨y, hy1, hy2⟩ := hI.2.1 e hem
    have hr1 : w1.heap[r]? = some (.mapIter (some m) since seen c0) := by rcases hal with rfl | rfl <;> exact hr
    have hb1 : w1.heap[m]? = some (.map es clock) := by rcases hal with rfl | rfl <;> exact hb
    have hset := heap_set (o' := .mapIter (some m) since (seen.push e.born) clock) hr1
    simp [execOp, ha.ev hx, hrun, Result.andThen]
    rw [hy1, hy2]
    refine hK _ _ (.inr ⟨y, rfl, ?_, _, Nat.lt_of_lt_of_le (left_shrinks es seen e he) hle, es, clock, since, seen, e, hem, hy1, hy2, (hset.2 m hne).trans hb1, hI, hset.1, hold, hsk, Nat.le_refl _, hQ⟩)
    have hk1 : Keep [r] w w1 := by (rcases hal with rfl | rfl <;> first | exact Keep.refl _ _ | exact (keep_drew _).weak)
    exact hk1.trans (keep_setBlock _ _ _)
theorem d_nxtU {x : Operand} {m r c : Nat} {vl : Int → Bool} {ks Q : Int → Prop} (hx : f.ev x = some (.pointer (some ⟨r, 0, none⟩))) (hne : m ≠ r) (h : MpR w m r vl ks Q c) :
    Does P n f w (.next x false) ty (fun v w' => ∃ (bo : Bool) (rest : List Value), v = .tuple (.bool bo :: rest).toArray ∧ Keep [r] w w' ∧ (bo = false → ∀ x, ks x → Q x) ∧ (bo = true → ∃ y c', c' < c ∧ MpE w' m r vl ks Q y c')) := by
  refine (d_nxt hx hne h).mono ?_
  rintro v w' (⟨rfl, rfl, hq⟩ | ⟨y, rfl, k, c', hc, hE⟩)
  · exact ⟨false, [], rfl, Keep.refl _ _, fun _ => hq, fun h => by cases h⟩
  · exact ⟨true, _, rfl, k, (fun h => by cases h), fun _ => ⟨y, c', hc, hE⟩⟩
theorem g_ent {x : Operand} {m r c : Nat} {vl : Int → Bool} {ks Q : Int → Prop} {y : Int} (hx : f.ev x = some (.pointer (some ⟨r, 0, none⟩))) (h : MpE w m r vl ks Q y c) :
    Gives P n f w (.entry x) ty (.tuple [.int .i64 y, .bool (vl y)].toArray) w := by
  obtain ⟨es, clock, since, seen, e, he, h1, h2, hb, hI, hr, _⟩ := h
  intro a ha dst pos aft g
  have hrun := run_entry_at (P := P) w r m since seen es clock e hr hb he hI.1.2.1
  simp [execOp, ha.ev hx, hrun, h1, h2]
theorem inj_of_nodup_map {α β : Type} {g : α → β} : ∀ {l : List α}, (l.map g).Nodup → ∀ {a b : α}, a ∈ l → b ∈ l → g a = g b → a = b
  | [], _, a, b, ha, _, _ => by cases ha
  | x :: r, hn, a, b, ha, hb, he => by
    rw [List.map_cons, List.nodup_cons] at hn
    rcases List.mem_cons.1 ha with rfl | ha' <;> rcases List.mem_cons.1 hb with rfl | hb'
    · rfl
    · exact absurd (List.mem_map.2 ⟨b, hb', he.symm⟩) hn.1
    · exact absurd (List.mem_map.2 ⟨a, ha', he⟩) hn.1
    · exact inj_of_nodup_map hn.2 ha' hb' he
theorem MpE.next {m r c : Nat} {vl : Int → Bool} {ks Q : Int → Prop} {y : Int} (h : MpE w m r vl ks Q y c) (hy : Q y) : MpR w m r vl ks Q c := by
  obtain ⟨es, clock, since, seen, e, he, h1, h2, hb, hI, hr, hold, hsk, hle, hQ⟩ := h
  refine ⟨es, clock, since, seen.push e.born, clock, hb, hI, hr, hold, hsk, hsk, hle, fun e2 he2 hs x hx => ?_⟩
  rw [Array.contains_push] at hs
  rcases Bool.or_eq_true_iff.1 hs with hs | hs
  · exact hQ e2 he2 hs x hx
  · have hb2 : e2.born = e.born := by simpa using hs
    have : e2 = e := by
      have hnd := hI.1.2.1
      exact inj_of_nodup_map (g := fun (z : MapEntry) => z.born) hnd he2 he hb2
    rw [this, h1] at hx
    cases hx; exact hy
end
end Go.Eng
namespace Go.Proofs.Ytonchmcppekldaa.W
open Go Go.Eng Go.Byt
set_option linter.unusedVariables false
set_option linter.unusedSimpArgs false
def prV (x : Pr) (k : Int) : Bool := if k = 1 then pkBare x.pk else if k = 2 then lfBare x.lf else if k = 3 then decide (x.ix = 0) else if k = 4 then decide (x.psk.length + x.nonce.length = 0) else if k = 6 then decide (x.enc.length = 0) else true
def prAll (k : Int) : Prop := k = 1 ∨ k = 2 ∨ k = 3 ∨ k = 4 ∨ k = 6
def prQ (x : Pr) (k : Int) : Prop := k = x.kind ∨ prV x k = true
theorem prV_1 (x : Pr) : prV x 1 = pkBare x.pk := rfl
theorem prV_2 (x : Pr) : prV x 2 = lfBare x.lf := rfl
theorem prV_3 (x : Pr) : prV x 3 = decide (x.ix = 0) := rfl
theorem prV_4 (x : Pr) : prV x 4 = decide (x.psk.length + x.nonce.length = 0) := rfl
theorem prV_6 (x : Pr) : prV x 6 = decide (x.enc.length = 0) := rfl
theorem prBare_yes {x : Pr} (h : ∀ k, prAll k → prQ x k) : prBare x = true := by
  have h1 := h 1 (.inl rfl); have h2 := h 2 (.inr (.inl rfl)); have h3 := h 3 (.inr (.inr (.inl rfl))); have h4 := h 4 (.inr (.inr (.inr (.inl rfl)))); have h6 := h 6 (.inr (.inr (.inr (.inr rfl))))
  unfold prQ at h1 h2 h3 h4 h6
  rw [prV_1] at h1; rw [prV_2] at h2; rw [prV_3, decide_eq_true_eq] at h3; rw [prV_4, decide_eq_true_eq] at h4; rw [prV_6, decide_eq_true_eq] at h6
  exact prBare_iff.2 ⟨h1.imp Eq.symm id, h2.imp Eq.symm id, h3.imp Eq.symm id, h4.imp Eq.symm id, h6.imp Eq.symm id⟩
theorem prBare_no {x : Pr} {k : Int} (hk : k ≠ x.kind) (hv : prV x k = false) : prBare x = false := by
  cases hp : prBare x with
  | false => rfl
  | true =>
    obtain ⟨h1, h2, h3, h4, h6⟩ := prBare_iff.1 hp
    unfold prV at hv
    split at hv
    · rw [h1.resolve_left (by omega)] at hv; cases hv
    · split at hv
      · rw [h2.resolve_left (by omega)] at hv; cases hv
      · split at hv
        · rw [decide_eq_true (h3.resolve_left (by omega))] at hv; cases hv
        · split at hv
          · rw [decide_eq_true (h4.resolve_left (by omega))] at hv; cases hv
          · split at hv
            · rw [decide_eq_true (h6.resolve_left (by omega))] at hv; cases hv
            · cases hv
def prK (L : Nat → Bool) (y : Int) : Prop := (y = 1 ∧ L 14 = true) ∨ (y = 2 ∧ L 18 = true) ∨ (y = 3 ∧ L 22 = true) ∨ (y = 4 ∧ L 31 = true) ∨ (y = 6 ∧ L 36 = true)
def prJ (w0 : World) (x : Pr) (L : Nat → Bool) (vs : Nat → Value) (w : World) : Prop :=
  Keep [] w0 w ∧ (L 0 = false → L 14 = false ∧ L 18 = false ∧ L 22 = false ∧ L 31 = false ∧ L 36 = false) ∧ (L 0 = true → ∃ m, vs 0 = .map (some m) ∧ w0.heap.size ≤ m ∧ MpB w m (prV x) (prK L))
theorem prJ_0 (w0 : World) (x : Pr) (vs : Nat → Value) : prJ w0 x (fun _ => false) vs w0.drew := ⟨keep_drew _, fun _ => ⟨rfl, rfl, rfl, rfl, rfl⟩, fun h => by cases h⟩
theorem prJ.same {w0 w : World} {x : Pr} {L : Nat → Bool} {vs vs' : Nat → Value} (h : prJ w0 x L vs w) (hv : L 0 = true → vs 0 = vs' 0) : prJ w0 x L vs' w :=
  ⟨h.1, h.2.1, fun h0 => by obtain ⟨m, e, r⟩ := h.2.2 h0; exact ⟨m, (hv h0).symm.trans e, r⟩⟩
theorem prJ.keep {w0 w w' : World} {x : Pr} {L : Nat → Bool} {vs : Nat → Value} (h : prJ w0 x L vs w) (k : Keep [] w w') : prJ w0 x L vs w' :=
  ⟨h.1.trans k, h.2.1, fun h0 => by obtain ⟨m, e, h1, h2⟩ := h.2.2 h0; exact ⟨m, e, h1, h2.keep k (fun hm => by cases hm)⟩⟩
theorem prJ.mk {w0 w w' : World} {x : Pr} {L : Nat → Bool} {vs : Nat → Value} {m : Nat} (h : prJ w0 x L vs w) (h0 : L 0 = false) (k : Keep [] w w') (hm : m = w.heap.size) (hn : ∀ ks : Int → Prop, (∀ y, ¬ ks y) → MpB w' m (prV x) ks) : prJ w0 x (updL L 0) (updV vs 0 (.map (some m))) w' := by
  obtain ⟨n1, n2, n3, n4, n6⟩ := h.2.1 h0
  refine ⟨h.1.trans k, fun h9 => ?_, fun _ => ⟨m, rfl, hm ▸ h.1.size, hn _ (fun y hy => ?_)⟩⟩
  · cases (show true = false from h9)
  · rcases hy with ⟨_, h9⟩ | ⟨_, h9⟩ | ⟨_, h9⟩ | ⟨_, h9⟩ | ⟨_, h9⟩
    · rw [show updL L 0 14 = L 14 from rfl, n1] at h9; cases h9
    · rw [show updL L 0 18 = L 18 from rfl, n2] at h9; cases h9
    · rw [show updL L 0 22 = L 22 from rfl, n3] at h9; cases h9
    · rw [show updL L 0 31 = L 31 from rfl, n4] at h9; cases h9
    · rw [show updL L 0 36 = L 36 from rfl, n6] at h9; cases h9
theorem prJ_ins {w0 w w' : World} {x : Pr} {L : Nat → Bool} {vs : Nat → Value} {m i : Nat} {v : Value} (h : prJ w0 x L vs w) (hi : Nat.beq 0 i = false) (h0 : L 0 = true) (em : vs 0 = .map (some m)) (hm : w0.heap.size ≤ m) (k : Keep [m] w w') (hM : MpB w' m (prV x) (prK (updL L i))) : prJ w0 x (updL L i) (updV vs i v) w' := by
  have e1 : updL L i 0 = true := by unfold updL; rw [hi]; exact h0
  refine ⟨h.1.new k (fun y hy => .inl ((List.mem_singleton.1 hy) ▸ hm)), fun h9 => ?_, fun _ => ⟨m, ?_, hm, hM⟩⟩
  · rw [e1] at h9; cases h9
  · unfold updV; rw [hi]; exact em
set_option maxRecDepth 100000 in
set_option maxHeartbeats 1000000 in
theorem rightK_any (i e s n h g gg e2 s2 n2 h2 g2 y1 y2 y3 : Value) (x : Pr) (w : World) (hi : RdB w i x.pk.init) (he : RdB w e x.pk.leaf.enc) (hs : RdB w s x.pk.leaf.sig) (hn : RdB w n x.pk.leaf.name) (hh : RdB w h x.pk.leaf.hash) (hg : RdB w g x.pk.leaf.sg) (hgg : RdB w gg x.pk.sg) (he2 : RdB w e2 x.lf.enc) (hs2 : RdB w s2 x.lf.sig) (hn2 : RdB w n2 x.lf.name) (hh2 : RdB w h2 x.lf.hash) (hg2 : RdB w g2 x.lf.sg) (hy1 : RdB w y1 x.psk) (hy2 : RdB w y2 x.nonce) (hy3 : RdB w y3 x.enc) (t0 : x.pk.init.length ≤ 140737488351232) (t1 : x.pk.leaf.enc.length ≤ 140737488351232) (t2 : x.pk.leaf.sig.length ≤ 140737488351232) (t3 : x.pk.leaf.name.length ≤ 140737488351232) (t4 : x.pk.leaf.hash.length ≤ 140737488351232) (t5 : x.pk.leaf.sg.length ≤ 140737488351232) (t6 : x.pk.sg.length ≤ 140737488351232) (t7 : x.lf.enc.length ≤ 140737488351232) (t8 : x.lf.sig.length ≤ 140737488351232) (t9 : x.lf.name.length ≤ 140737488351232) (t10 : x.lf.hash.length ≤ 140737488351232) (t11 : x.lf.sg.length ≤ 140737488351232) (t12 : x.psk.length ≤ 140737488351232) (t13 : x.nonce.length ≤ 140737488351232) (t14 : x.enc.length ≤ 140737488351232) : Rets Try.prog 26 [.agg [.int .i64 x.kind, i, e, s, n, .int .i64 x.pk.leaf.src, h, g, gg, e2, s2, n2, .int .i64 x.lf.src, h2, g2, .int .i64 x.ix, y1, y2, y3].toArray] w (fun r w' => r = .bool (prOk x) ∧ Keep [] w w') := by
  have hB : Keep [] w w := Keep.refl _ _
  refine rets_of_tw Try.func26 rfl (by decide) Try.ntmps26 rfl (fun fin _ hfin => ?_)
  refine tw_seq ?_
  refine tw_region ?_
  refine ow_d (d_box (cs := [.int .i64 x.kind, i, e, s, n, .int .i64 x.pk.leaf.src, h, g, gg, e2, s2, n2, .int .i64 x.lf.src, h2, g2, .int .i64 x.ix, y1, y2, y3]) rfl rfl) rfl ?_
  rintro _ w1 ⟨b1, rfl, eb1, hb1, k1, z1⟩
  have ge_b1 : w.heap.size ≤ b1 := by have := hB.size; omega
  replace hB := hB.trans k1
  clear eb1 z1
  refine ow_g (g_as rfl) rfl ?_
  refine ow_nil ?_
  refine tw_seq ?_
  refine tw_region ?_
  refine ow_g (g_fa Try.underlying34 rfl ty32 (by decide) rfl) rfl ?_
  refine ow_g (g_ldab (cs' := [_, _, _, _, _, _, _, _]) ag32 ty32 rfl hb1 rfl rfl) rfl ?_
  refine ow_d (d_alloc ty32) rfl ?_
  rintro _ w2 ⟨b2, rfl, eb2, hb2, k2, z2⟩
  have ge_b2 : w.heap.size ≤ b2 := by have := hB.size; omega
  have ne_b1_b2 : b1 ≠ b2 := by have := hb1.lt; omega
  replace hb1 := hb1.keep0 k2
  replace hB := hB.trans k2
  clear eb2 z2
  refine ow_d0 (d_sta ty32 rfl rfl rfl (by simp only [List.forall_mem_cons]; refine ⟨(by first | rfl | exact Rd.one (by first | assumption | exact Own.rd (by assumption) | exact Rd.keep0 (by assumption) hB | exact Own.rd (Own.keep0 (by assumption) hB))), (by first | rfl | exact Rd.one (by first | assumption | exact Own.rd (by assumption) | exact Rd.keep0 (by assumption) hB | exact Own.rd (Own.keep0 (by assumption) hB))), (by first | rfl | exact Rd.one (by first | assumption | exact Own.rd (by assumption) | exact Rd.keep0 (by assumption) hB | exact Own.rd (Own.keep0 (by assumption) hB))), (by first | rfl | exact Rd.one (by first | assumption | exact Own.rd (by assumption) | exact Rd.keep0 (by assumption) hB | exact Own.rd (Own.keep0 (by assumption) hB))), (by first | rfl | exact Rd.one (by first | assumption | exact Own.rd (by assumption) | exact Rd.keep0 (by assumption) hB | exact Own.rd (Own.keep0 (by assumption) hB))), (by first | rfl | exact Rd.one (by first | assumption | exact Own.rd (by assumption) | exact Rd.keep0 (by assumption) hB | exact Own.rd (Own.keep0 (by assumption) hB))), (by first | rfl | exact Rd.one (by first | assumption | exact Own.rd (by assumption) | exact Rd.keep0 (by assumption) hB | exact Own.rd (Own.keep0 (by assumption) hB))), (by first | rfl | exact Rd.one (by first | assumption | exact Own.rd (by assumption) | exact Rd.keep0 (by assumption) hB | exact Own.rd (Own.keep0 (by assumption) hB))), fun v hv => by cases hv⟩) hb2 rfl) ?_
  rintro _ w3 ⟨hb3, k3, z3⟩
  replace hb1 := hb1.keep k3 (fun hm => absurd (List.mem_singleton.1 hm) ne_b1_b2)
  replace hB := hB.new k3 (fun x hx => .inl ((List.mem_singleton.1 hx) ▸ ge_b2))
  clear z3
  replace hb3 : Bk w3 b2 _ [i, e, s, n, .int .i64 x.pk.leaf.src, h, g, gg] := hb3
  refine ow_nil ?_
  refine tw_seq ?_
  refine tw_seq ?_
  refine tw_drawnV 37 mixed [(0, _), (1, _), (2, _), (7, _), (8, _), (3, _)] (fun jj v => match jj with | 1 => v = .pointer (some ⟨b2, 0 + 0, none⟩) | 2 => v = i | 3 => v = .int .i64 (x.pk.init.length : Int) | 4 => v = .pointer (some ⟨b2, 0 + 7, none⟩) | 5 => v = gg | 6 => v = .int .i64 (x.pk.sg.length : Int) | 7 => v = .int .i64 ((x.pk.init.length : Int) + (x.pk.sg.length : Int)) | 8 => v = .bool (decide (((x.pk.init.length : Int) + (x.pk.sg.length : Int)) = 0)) | 9 => v = .bool (decide (((x.pk.init.length : Int) + (x.pk.sg.length : Int)) = 0)) | 10 => v = gv (decide (((x.pk.init.length : Int) + (x.pk.sg.length : Int)) = 0)) (.pointer (some ⟨b2, 0 + 1, none⟩)) | 11 => v = gv (decide (((x.pk.init.length : Int) + (x.pk.sg.length : Int)) = 0)) (.agg [e, s, n, .int .i64 x.pk.leaf.src, h, g].toArray) | 12 => v = gv (decide (((x.pk.init.length : Int) + (x.pk.sg.length : Int)) = 0)) (.bool (lfBare x.pk.leaf)) | 13 => v = .bool ((decide (((x.pk.init.length : Int) + (x.pk.sg.length : Int)) = 0)) && (lfBare x.pk.leaf)) | 15 => v = .pointer (some ⟨b1, 0 + 9, none⟩) | 16 => v = .agg [e2, s2, n2, .int .i64 x.lf.src, h2, g2].toArray | 17 => v = .bool (lfBare x.lf) | 19 => v = .pointer (some ⟨b1, 0 + 15, none⟩) | 20 => v = .int .i64 x.ix | 21 => v = .bool (decide (x.ix = 0)) | 23 => v = .pointer (some ⟨b1, 0 + 16, none⟩) | 24 => v = y1 | 25 => v = .int .i64 (x.psk.length : Int) | 26 => v = .pointer (some ⟨b1, 0 + 17, none⟩) | 27 => v = y2 | 28 => v = .int .i64 (x.nonce.length : Int) | 29 => v = .int .i64 ((x.psk.length : Int) + (x.nonce.length : Int)) | 30 => v = .bool (decide (((x.psk.length : Int) + (x.nonce.length : Int)) = 0)) | 32 => v = .pointer (some ⟨b1, 0 + 18, none⟩) | 33 => v = y3 | 34 => v = .int .i64 (x.enc.length : Int) | 35 => v = .bool (decide ((x.enc.length : Int) = 0)) | _ => True) (prJ w3 x) ⟨rfl, rfl, rfl, rfl, rfl, rfl, trivial⟩ (by decide) (by decide) rfl (fun vs => prJ_0 w3 x vs) (fun L vs vs' w' h hJ => hJ.same (fun h0 => h 0 h0 rfl)) ?_ ?_
  · refine ⟨?_, ?_, ?_, ?_, ?_, ?_, ?_, ?_, ?_, ?_, ?_, ?_, ?_, ?_, ?_, ?_, ?_, ?_, ?_, ?_, ?_, ?_, ?_, ?_, ?_, ?_, ?_, ?_, ?_, ?_, ?_, ?_, ?_, ?_, ?_, ?_, ?_, trivial⟩
    · refine ⟨[], rfl, ?_⟩; rintro L W1 vs hL0 hLd hJ hd
      have hk := hJ.1
      replace hb1 := hb1.keep0 hk
      replace hb3 := hb3.keep0 hk
      replace hB := hB.trans hk
      refine ⟨true, fun a _ => rfl, fun _ => ?_, fun h => by cases h⟩
      refine does_sub [] trivial ?_
      refine (d_mkm (prV x)).mono ?_
      rintro v W2 ⟨rfl, k1, hn⟩; exact ⟨trivial, hJ.mk hL0 k1 rfl hn⟩
    · refine ⟨[], rfl, ?_⟩; rintro L W1 vs hL0 hLd hJ hd
      have hk := hJ.1
      replace hb1 := hb1.keep0 hk
      replace hb3 := hb3.keep0 hk
      replace hB := hB.trans hk
      refine ⟨true, fun a _ => rfl, fun _ => ?_, fun h => by cases h⟩
      refine does_sub [(3, _)] ⟨rfl, trivial⟩ ?_
      refine (Gives.does (g_fa Try.underlying32 rfl ty22 (by decide) rfl)).mono ?_
      rintro v W2 ⟨rfl, rfl⟩; exact ⟨rfl, hJ⟩
    · refine ⟨[1], rfl, ?_⟩; rintro L W1 vs hL0 hLd hJ hd
      have d1 : vs 1 = .pointer (some ⟨b2, 0 + 0, none⟩) := hd 1 (by decide)
      have hk := hJ.1
      replace hb1 := hb1.keep0 hk
      replace hb3 := hb3.keep0 hk
      replace hB := hB.trans hk
      refine ⟨true, fun a _ => rfl, fun _ => ?_, fun h => by cases h⟩
      refine does_sub [(10, .pointer (some ⟨b2, 0 + 0, none⟩))] ⟨congrArg some d1, trivial⟩ ?_
      refine (Gives.does (g_ldb sc22 rfl hb3 rfl)).mono ?_
      rintro v W2 ⟨rfl, rfl⟩; exact ⟨rfl, hJ⟩
    · refine ⟨[2], rfl, ?_⟩; rintro L W1 vs hL0 hLd hJ hd
      have d2 : vs 2 = i := hd 2 (by decide)
      have hk := hJ.1
      replace hb1 := hb1.keep0 hk
      replace hb3 := hb3.keep0 hk
      replace hB := hB.trans hk
      refine ⟨true, fun a _ => rfl, fun _ => ?_, fun h => by cases h⟩
      refine does_sub [(11, i)] ⟨congrArg some d2, trivial⟩ ?_
      refine (Gives.does (g_len Try.underlying22 rfl (by first | assumption | exact Own.rd (by assumption) | exact Rd.keep0 (by assumption) hB | exact Own.rd (Own.keep0 (by assumption) hB)))).mono ?_
      rintro v W2 ⟨rfl, rfl⟩; exact ⟨rfl, hJ⟩
    · refine ⟨[], rfl, ?_⟩; rintro L W1 vs hL0 hLd hJ hd
      have hk := hJ.1
      replace hb1 := hb1.keep0 hk
      replace hb3 := hb3.keep0 hk
      replace hB := hB.trans hk
      refine ⟨true, fun a _ => rfl, fun _ => ?_, fun h => by cases h⟩
      refine does_sub [(3, _)] ⟨rfl, trivial⟩ ?_
      refine (Gives.does (g_fa Try.underlying32 rfl ty22 (by decide) rfl)).mono ?_
      rintro v W2 ⟨rfl, rfl⟩; exact ⟨rfl, hJ⟩
    · refine ⟨[4], rfl, ?_⟩; rintro L W1 vs hL0 hLd hJ hd
      have d4 : vs 4 = .pointer (some ⟨b2, 0 + 7, none⟩) := hd 4 (by decide)
      have hk := hJ.1
      replace hb1 := hb1.keep0 hk
      replace hb3 := hb3.keep0 hk
      replace hB := hB.trans hk
      refine ⟨true, fun a _ => rfl, fun _ => ?_, fun h => by cases h⟩
      refine does_sub [(13, .pointer (some ⟨b2, 0 + 7, none⟩))] ⟨congrArg some d4, trivial⟩ ?_
      refine (Gives.does (g_ldb sc22 rfl hb3 rfl)).mono ?_
      rintro v W2 ⟨rfl, rfl⟩; exact ⟨rfl, hJ⟩
    · refine ⟨[5], rfl, ?_⟩; rintro L W1 vs hL0 hLd hJ hd
      have d5 : vs 5 = gg := hd 5 (by decide)
      have hk := hJ.1
      replace hb1 := hb1.keep0 hk
      replace hb3 := hb3.keep0 hk
      replace hB := hB.trans hk
      refine ⟨true, fun a _ => rfl, fun _ => ?_, fun h => by cases h⟩
      refine does_sub [(14, gg)] ⟨congrArg some d5, trivial⟩ ?_
      refine (Gives.does (g_len Try.underlying22 rfl (by first | assumption | exact Own.rd (by assumption) | exact Rd.keep0 (by assumption) hB | exact Own.rd (Own.keep0 (by assumption) hB)))).mono ?_
      rintro v W2 ⟨rfl, rfl⟩; exact ⟨rfl, hJ⟩
    · refine ⟨[3, 6], rfl, ?_⟩; rintro L W1 vs hL0 hLd hJ hd
      have d3 : vs 3 = .int .i64 (x.pk.init.length : Int) := hd 3 (by decide)
      have d6 : vs 6 = .int .i64 (x.pk.sg.length : Int) := hd 6 (by decide)
      have hk := hJ.1
      replace hb1 := hb1.keep0 hk
      replace hb3 := hb3.keep0 hk
      replace hB := hB.trans hk
      refine ⟨true, fun a _ => rfl, fun _ => ?_, fun h => by cases h⟩
      refine does_sub [(12, .int .i64 (x.pk.init.length : Int)), (15, .int .i64 (x.pk.sg.length : Int))] ⟨congrArg some d3, congrArg some d6, trivial⟩ ?_
      refine (Gives.does (g_add rfl rfl (by omega))).mono ?_
      rintro v W2 ⟨rfl, rfl⟩; exact ⟨rfl, hJ⟩
    · refine ⟨[7], rfl, ?_⟩; rintro L W1 vs hL0 hLd hJ hd
      have d7 : vs 7 = .int .i64 ((x.pk.init.length : Int) + (x.pk.sg.length : Int)) := hd 7 (by decide)
      have hk := hJ.1
      replace hb1 := hb1.keep0 hk
      replace hb3 := hb3.keep0 hk
      replace hB := hB.trans hk
      refine ⟨true, fun a _ => rfl, fun _ => ?_, fun h => by cases h⟩
      refine does_sub [(16, .int .i64 ((x.pk.init.length : Int) + (x.pk.sg.length : Int)))] ⟨congrArg some d7, trivial⟩ ?_
      refine (Gives.does (g_eq rfl rfl)).mono ?_
      rintro v W2 ⟨rfl, rfl⟩; exact ⟨rfl, hJ⟩
    · refine ⟨[8], rfl, ?_⟩; rintro L W1 vs hL0 hLd hJ hd
      have d8 : vs 8 = .bool (decide (((x.pk.init.length : Int) + (x.pk.sg.length : Int)) = 0)) := hd 8 (by decide)
      have hk := hJ.1
      replace hb1 := hb1.keep0 hk
      replace hb3 := hb3.keep0 hk
      replace hB := hB.trans hk
      refine ⟨true, fun a _ => rfl, fun _ => ?_, fun h => by cases h⟩
      refine does_sub [(17, .bool (decide (((x.pk.init.length : Int) + (x.pk.sg.length : Int)) = 0)))] ⟨congrArg some d8, trivial⟩ ?_
      refine (Gives.does (g_mv rfl)).mono ?_
      rintro v W2 ⟨rfl, rfl⟩; exact ⟨rfl, hJ⟩
    · refine ⟨[9], rfl, ?_⟩; rintro L W1 vs hL0 hLd hJ hd
      have d9 : vs 9 = .bool (decide (((x.pk.init.length : Int) + (x.pk.sg.length : Int)) = 0)) := hd 9 (by decide)
      have hk := hJ.1
      replace hb1 := hb1.keep0 hk
      replace hb3 := hb3.keep0 hk
      replace hB := hB.trans hk
      refine ⟨(decide (((x.pk.init.length : Int) + (x.pk.sg.length : Int)) = 0)), fun a ha => (by refine grd1 (c := (decide (((x.pk.init.length : Int) + (x.pk.sg.length : Int)) = 0))) (b := (decide (((x.pk.init.length : Int) + (x.pk.sg.length : Int)) = 0))) (oj := ?oj) (d := 18) ?h1 ?h2 ?h3 (by simp) a ha; (case h1 => exact rfl); (case h2 => exact rfl); (case h3 => exact congrArg some d9)), fun hgq => ?_, fun hgq => ⟨(gv_false hgq).symm, hJ⟩⟩
      refine does_sub [(3, _)] ⟨rfl, trivial⟩ ?_
      refine (Gives.does (g_fa Try.underlying32 rfl ty30 (by decide) rfl)).mono ?_
      rintro v W2 ⟨rfl, rfl⟩; exact ⟨(gv_true hgq).symm, hJ⟩
    · refine ⟨[9, 10], rfl, ?_⟩; rintro L W1 vs hL0 hLd hJ hd
      have d9 : vs 9 = .bool (decide (((x.pk.init.length : Int) + (x.pk.sg.length : Int)) = 0)) := hd 9 (by decide)
      have d10 : vs 10 = gv (decide (((x.pk.init.length : Int) + (x.pk.sg.length : Int)) = 0)) (.pointer (some ⟨b2, 0 + 1, none⟩)) := hd 10 (by decide)
      have hk := hJ.1
      replace hb1 := hb1.keep0 hk
      replace hb3 := hb3.keep0 hk
      replace hB := hB.trans hk
      refine ⟨(decide (((x.pk.init.length : Int) + (x.pk.sg.length : Int)) = 0)), fun a ha => (by refine grd1 (c := (decide (((x.pk.init.length : Int) + (x.pk.sg.length : Int)) = 0))) (b := (decide (((x.pk.init.length : Int) + (x.pk.sg.length : Int)) = 0))) (oj := ?oj) (d := 18) ?h1 ?h2 ?h3 (by simp) a ha; (case h1 => exact rfl); (case h2 => exact rfl); (case h3 => exact congrArg some d9)), fun hgq => ?_, fun hgq => ⟨(gv_false hgq).symm, hJ⟩⟩
      refine does_sub [(19, .pointer (some ⟨b2, 0 + 1, none⟩))] ⟨congrArg some (d10.trans (gv_true hgq)), trivial⟩ ?_
      refine (Gives.does (g_ldab (cs' := [_, _, _, _, _, _]) ag30 ty30 rfl hb3 rfl rfl)).mono ?_
      rintro v W2 ⟨rfl, rfl⟩; exact ⟨(gv_true hgq).symm, hJ⟩
    · refine ⟨[9, 11], rfl, ?_⟩; rintro L W1 vs hL0 hLd hJ hd
      have d9 : vs 9 = .bool (decide (((x.pk.init.length : Int) + (x.pk.sg.length : Int)) = 0)) := hd 9 (by decide)
      have d11 : vs 11 = gv (decide (((x.pk.init.length : Int) + (x.pk.sg.length : Int)) = 0)) (.agg [e, s, n, .int .i64 x.pk.leaf.src, h, g].toArray) := hd 11 (by decide)
      have hk := hJ.1
      replace hb1 := hb1.keep0 hk
      replace hb3 := hb3.keep0 hk
      replace hB := hB.trans hk
      refine ⟨(decide (((x.pk.init.length : Int) + (x.pk.sg.length : Int)) = 0)), fun a ha => (by refine grd1 (c := (decide (((x.pk.init.length : Int) + (x.pk.sg.length : Int)) = 0))) (b := (decide (((x.pk.init.length : Int) + (x.pk.sg.length : Int)) = 0))) (oj := ?oj) (d := 18) ?h1 ?h2 ?h3 (by simp) a ha; (case h1 => exact rfl); (case h2 => exact rfl); (case h3 => exact congrArg some d9)), fun hgq => ?_, fun hgq => ⟨(gv_false hgq).symm, hJ⟩⟩
      refine does_sub [(20, .agg [e, s, n, .int .i64 x.pk.leaf.src, h, g].toArray)] ⟨congrArg some (d11.trans (gv_true hgq)), trivial⟩ ?_
      refine (d_call (vs := [_]) rfl (bareLeaf_any _ _ _ _ _ x.pk.leaf _ (by first | assumption | exact Own.rd (by assumption) | exact Rd.keep0 (by assumption) hB | exact Own.rd (Own.keep0 (by assumption) hB)) (by first | assumption | exact Own.rd (by assumption) | exact Rd.keep0 (by assumption) hB | exact Own.rd (Own.keep0 (by assumption) hB)) (by first | assumption | exact Own.rd (by assumption) | exact Rd.keep0 (by assumption) hB | exact Own.rd (Own.keep0 (by assumption) hB)) (by first | assumption | exact Own.rd (by assumption) | exact Rd.keep0 (by assumption) hB | exact Own.rd (Own.keep0 (by assumption) hB)) (by first | assumption | exact Own.rd (by assumption) | exact Rd.keep0 (by assumption) hB | exact Own.rd (Own.keep0 (by assumption) hB)) t1 t2 t3 t4 t5)).mono ?_
      rintro v W2 ⟨rfl, k1⟩; exact ⟨(gv_true hgq).symm, hJ.keep k1⟩
    · refine ⟨[9, 12], rfl, ?_⟩; rintro L W1 vs hL0 hLd hJ hd
      have d9 : vs 9 = .bool (decide (((x.pk.init.length : Int) + (x.pk.sg.length : Int)) = 0)) := hd 9 (by decide)
      have d12 : vs 12 = gv (decide (((x.pk.init.length : Int) + (x.pk.sg.length : Int)) = 0)) (.bool (lfBare x.pk.leaf)) := hd 12 (by decide)
      have hk := hJ.1
      replace hb1 := hb1.keep0 hk
      replace hb3 := hb3.keep0 hk
      replace hB := hB.trans hk
      refine ⟨true, fun a _ => rfl, fun _ => ?_, fun h => by cases h⟩
      refine does_sub [(18, .bool (decide (((x.pk.init.length : Int) + (x.pk.sg.length : Int)) = 0))), (21, gv (decide (((x.pk.init.length : Int) + (x.pk.sg.length : Int)) = 0)) (.bool (lfBare x.pk.leaf)))] ⟨congrArg some d9, congrArg some d12, trivial⟩ ?_
      refine (Gives.does (g_pand (c := (decide (((x.pk.init.length : Int) + (x.pk.sg.length : Int)) = 0))) (b := (decide (((x.pk.init.length : Int) + (x.pk.sg.length : Int)) = 0))) (b2 := (lfBare x.pk.leaf)) rfl rfl (by simp))).mono ?_
      rintro v W2 ⟨rfl, rfl⟩; exact ⟨rfl, hJ⟩
    · refine ⟨[0, 13], rfl, ?_⟩; rintro L W1 vs hL0 hLd hJ hd
      have d13 : vs 13 = .bool ((decide (((x.pk.init.length : Int) + (x.pk.sg.length : Int)) = 0)) && (lfBare x.pk.leaf)) := hd 13 (by decide)
      have hk := hJ.1
      replace hb1 := hb1.keep0 hk
      replace hb3 := hb3.keep0 hk
      replace hB := hB.trans hk
      refine ⟨true, fun a _ => rfl, fun _ => ?_, fun h => by cases h⟩
      obtain ⟨m, em, hm0, hM⟩ := hJ.2.2 (hLd 0 (by decide))
      refine does_sub [(9, .map (some m)), (22, .bool ((decide (((x.pk.init.length : Int) + (x.pk.sg.length : Int)) = 0)) && (lfBare x.pk.leaf)))] ⟨congrArg some em, congrArg some d13, trivial⟩ ?_
      refine (d_ins (a := 1) Try.underlying114 Try.underlying3 rfl rfl rfl (by rw [prV_1]; unfold pkBare; congr 1; rw [Bool.eq_iff_iff]; simp only [decide_eq_true_eq]; omega) hM).mono ?_
      rintro v W2 ⟨k1, hM2⟩; exact ⟨trivial, prJ_ins hJ (i := 14) (by decide) (hLd 0 (by decide)) em hm0 k1 (hM2.sub (fun y hy => by rcases hy with ⟨rfl, h9⟩ | ⟨rfl, h9⟩ | ⟨rfl, h9⟩ | ⟨rfl, h9⟩ | ⟨rfl, h9⟩ <;> first | exact .inl rfl | exact .inr (.inl ⟨rfl, h9⟩) | exact .inr (.inr (.inl ⟨rfl, h9⟩)) | exact .inr (.inr (.inr (.inl ⟨rfl, h9⟩))) | exact .inr (.inr (.inr (.inr (.inl ⟨rfl, h9⟩)))) | exact .inr (.inr (.inr (.inr (.inr ⟨rfl, h9⟩))))))⟩
    · refine ⟨[], rfl, ?_⟩; rintro L W1 vs hL0 hLd hJ hd
      have hk := hJ.1
      replace hb1 := hb1.keep0 hk
      replace hb3 := hb3.keep0 hk
      replace hB := hB.trans hk
      refine ⟨true, fun a _ => rfl, fun _ => ?_, fun h => by cases h⟩
      refine does_sub [(1, _)] ⟨rfl, trivial⟩ ?_
      refine (Gives.does (g_fa Try.underlying34 rfl ty30 (by decide) rfl)).mono ?_
      rintro v W2 ⟨rfl, rfl⟩; exact ⟨rfl, hJ⟩
    · refine ⟨[15], rfl, ?_⟩; rintro L W1 vs hL0 hLd hJ hd
      have d15 : vs 15 = .pointer (some ⟨b1, 0 + 9, none⟩) := hd 15 (by decide)
      have hk := hJ.1
      replace hb1 := hb1.keep0 hk
      replace hb3 := hb3.keep0 hk
      replace hB := hB.trans hk
      refine ⟨true, fun a _ => rfl, fun _ => ?_, fun h => by cases h⟩
      refine does_sub [(23, .pointer (some ⟨b1, 0 + 9, none⟩))] ⟨congrArg some d15, trivial⟩ ?_
      refine (Gives.does (g_ldab (cs' := [_, _, _, _, _, _]) ag30 ty30 rfl hb1 rfl rfl)).mono ?_
      rintro v W2 ⟨rfl, rfl⟩; exact ⟨rfl, hJ⟩
    · refine ⟨[16], rfl, ?_⟩; rintro L W1 vs hL0 hLd hJ hd
      have d16 : vs 16 = .agg [e2, s2, n2, .int .i64 x.lf.src, h2, g2].toArray := hd 16 (by decide)
      have hk := hJ.1
      replace hb1 := hb1.keep0 hk
      replace hb3 := hb3.keep0 hk
      replace hB := hB.trans hk
      refine ⟨true, fun a _ => rfl, fun _ => ?_, fun h => by cases h⟩
      refine does_sub [(24, .agg [e2, s2, n2, .int .i64 x.lf.src, h2, g2].toArray)] ⟨congrArg some d16, trivial⟩ ?_
      refine (d_call (vs := [_]) rfl (bareLeaf_any _ _ _ _ _ x.lf _ (by first | assumption | exact Own.rd (by assumption) | exact Rd.keep0 (by assumption) hB | exact Own.rd (Own.keep0 (by assumption) hB)) (by first | assumption | exact Own.rd (by assumption) | exact Rd.keep0 (by assumption) hB | exact Own.rd (Own.keep0 (by assumption) hB)) (by first | assumption | exact Own.rd (by assumption) | exact Rd.keep0 (by assumption) hB | exact Own.rd (Own.keep0 (by assumption) hB)) (by first | assumption | exact Own.rd (by assumption) | exact Rd.keep0 (by assumption) hB | exact Own.rd (Own.keep0 (by assumption) hB)) (by first | assumption | exact Own.rd (by assumption) | exact Rd.keep0 (by assumption) hB | exact Own.rd (Own.keep0 (by assumption) hB)) t7 t8 t9 t10 t11)).mono ?_
      rintro v W2 ⟨rfl, k1⟩; exact ⟨rfl, hJ.keep k1⟩
    · refine ⟨[0, 17], rfl, ?_⟩; rintro L W1 vs hL0 hLd hJ hd
      have d17 : vs 17 = .bool (lfBare x.lf) := hd 17 (by decide)
      have hk := hJ.1
      replace hb1 := hb1.keep0 hk
      replace hb3 := hb3.keep0 hk
      replace hB := hB.trans hk
      refine ⟨true, fun a _ => rfl, fun _ => ?_, fun h => by cases h⟩
      obtain ⟨m, em, hm0, hM⟩ := hJ.2.2 (hLd 0 (by decide))
      refine does_sub [(9, .map (some m)), (25, .bool (lfBare x.lf))] ⟨congrArg some em, congrArg some d17, trivial⟩ ?_
      refine (d_ins (a := 2) Try.underlying114 Try.underlying3 rfl rfl rfl (prV_2 x).symm hM).mono ?_
      rintro v W2 ⟨k1, hM2⟩; exact ⟨trivial, prJ_ins hJ (i := 18) (by decide) (hLd 0 (by decide)) em hm0 k1 (hM2.sub (fun y hy => by rcases hy with ⟨rfl, h9⟩ | ⟨rfl, h9⟩ | ⟨rfl, h9⟩ | ⟨rfl, h9⟩ | ⟨rfl, h9⟩ <;> first | exact .inl rfl | exact .inr (.inl ⟨rfl, h9⟩) | exact .inr (.inr (.inl ⟨rfl, h9⟩)) | exact .inr (.inr (.inr (.inl ⟨rfl, h9⟩))) | exact .inr (.inr (.inr (.inr (.inl ⟨rfl, h9⟩)))) | exact .inr (.inr (.inr (.inr (.inr ⟨rfl, h9⟩))))))⟩
    · refine ⟨[], rfl, ?_⟩; rintro L W1 vs hL0 hLd hJ hd
      have hk := hJ.1
      replace hb1 := hb1.keep0 hk
      replace hb3 := hb3.keep0 hk
      replace hB := hB.trans hk
      refine ⟨true, fun a _ => rfl, fun _ => ?_, fun h => by cases h⟩
      refine does_sub [(1, _)] ⟨rfl, trivial⟩ ?_
      refine (Gives.does (g_fa Try.underlying34 rfl ty3 (by decide) rfl)).mono ?_
      rintro v W2 ⟨rfl, rfl⟩; exact ⟨rfl, hJ⟩
    · refine ⟨[19], rfl, ?_⟩; rintro L W1 vs hL0 hLd hJ hd
      have d19 : vs 19 = .pointer (some ⟨b1, 0 + 15, none⟩) := hd 19 (by decide)
      have hk := hJ.1
      replace hb1 := hb1.keep0 hk
      replace hb3 := hb3.keep0 hk
      replace hB := hB.trans hk
      refine ⟨true, fun a _ => rfl, fun _ => ?_, fun h => by cases h⟩
      refine does_sub [(26, .pointer (some ⟨b1, 0 + 15, none⟩))] ⟨congrArg some d19, trivial⟩ ?_
      refine (Gives.does (g_ldb sc3 rfl hb1 rfl)).mono ?_
      rintro v W2 ⟨rfl, rfl⟩; exact ⟨rfl, hJ⟩
    · refine ⟨[20], rfl, ?_⟩; rintro L W1 vs hL0 hLd hJ hd
      have d20 : vs 20 = .int .i64 x.ix := hd 20 (by decide)
      have hk := hJ.1
      replace hb1 := hb1.keep0 hk
      replace hb3 := hb3.keep0 hk
      replace hB := hB.trans hk
      refine ⟨true, fun a _ => rfl, fun _ => ?_, fun h => by cases h⟩
      refine does_sub [(27, .int .i64 x.ix)] ⟨congrArg some d20, trivial⟩ ?_
      refine (Gives.does (g_eq rfl rfl)).mono ?_
      rintro v W2 ⟨rfl, rfl⟩; exact ⟨rfl, hJ⟩
    · refine ⟨[0, 21], rfl, ?_⟩; rintro L W1 vs hL0 hLd hJ hd
      have d21 : vs 21 = .bool (decide (x.ix = 0)) := hd 21 (by decide)
      have hk := hJ.1
      replace hb1 := hb1.keep0 hk
      replace hb3 := hb3.keep0 hk
      replace hB := hB.trans hk
      refine ⟨true, fun a _ => rfl, fun _ => ?_, fun h => by cases h⟩
      obtain ⟨m, em, hm0, hM⟩ := hJ.2.2 (hLd 0 (by decide))
      refine does_sub [(9, .map (some m)), (28, .bool (decide (x.ix = 0)))] ⟨congrArg some em, congrArg some d21, trivial⟩ ?_
      refine (d_ins (a := 3) Try.underlying114 Try.underlying3 rfl rfl rfl (prV_3 x).symm hM).mono ?_
      rintro v W2 ⟨k1, hM2⟩; exact ⟨trivial, prJ_ins hJ (i := 22) (by decide) (hLd 0 (by decide)) em hm0 k1 (hM2.sub (fun y hy => by rcases hy with ⟨rfl, h9⟩ | ⟨rfl, h9⟩ | ⟨rfl, h9⟩ | ⟨rfl, h9⟩ | ⟨rfl, h9⟩ <;> first | exact .inl rfl | exact .inr (.inl ⟨rfl, h9⟩) | exact .inr (.inr (.inl ⟨rfl, h9⟩)) | exact .inr (.inr (.inr (.inl ⟨rfl, h9⟩))) | exact .inr (.inr (.inr (.inr (.inl ⟨rfl, h9⟩)))) | exact .inr (.inr (.inr (.inr (.inr ⟨rfl, h9⟩))))))⟩
    · refine ⟨[], rfl, ?_⟩; rintro L W1 vs hL0 hLd hJ hd
      have hk := hJ.1
      replace hb1 := hb1.keep0 hk
      replace hb3 := hb3.keep0 hk
      replace hB := hB.trans hk
      refine ⟨true, fun a _ => rfl, fun _ => ?_, fun h => by cases h⟩
      refine does_sub [(1, _)] ⟨rfl, trivial⟩ ?_
      refine (Gives.does (g_fa Try.underlying34 rfl ty22 (by decide) rfl)).mono ?_
      rintro v W2 ⟨rfl, rfl⟩; exact ⟨rfl, hJ⟩
    · refine ⟨[23], rfl, ?_⟩; rintro L W1 vs hL0 hLd hJ hd
      have d23 : vs 23 = .pointer (some ⟨b1, 0 + 16, none⟩) := hd 23 (by decide)
      have hk := hJ.1
      replace hb1 := hb1.keep0 hk
      replace hb3 := hb3.keep0 hk
      replace hB := hB.trans hk
      refine ⟨true, fun a _ => rfl, fun _ => ?_, fun h => by cases h⟩
      refine does_sub [(29, .pointer (some ⟨b1, 0 + 16, none⟩))] ⟨congrArg some d23, trivial⟩ ?_
      refine (Gives.does (g_ldb sc22 rfl hb1 rfl)).mono ?_
      rintro v W2 ⟨rfl, rfl⟩; exact ⟨rfl, hJ⟩
    · refine ⟨[24], rfl, ?_⟩; rintro L W1 vs hL0 hLd hJ hd
      have d24 : vs 24 = y1 := hd 24 (by decide)
      have hk := hJ.1
      replace hb1 := hb1.keep0 hk
      replace hb3 := hb3.keep0 hk
      replace hB := hB.trans hk
      refine ⟨true, fun a _ => rfl, fun _ => ?_, fun h => by cases h⟩
      refine does_sub [(30, y1)] ⟨congrArg some d24, trivial⟩ ?_
      refine (Gives.does (g_len Try.underlying22 rfl (by first | assumption | exact Own.rd (by assumption) | exact Rd.keep0 (by assumption) hB | exact Own.rd (Own.keep0 (by assumption) hB)))).mono ?_
      rintro v W2 ⟨rfl, rfl⟩; exact ⟨rfl, hJ⟩
    · refine ⟨[], rfl, ?_⟩; rintro L W1 vs hL0 hLd hJ hd
      have hk := hJ.1
      replace hb1 := hb1.keep0 hk
      replace hb3 := hb3.keep0 hk
      replace hB := hB.trans hk
      refine ⟨true, fun a _ => rfl, fun _ => ?_, fun h => by cases h⟩
      refine does_sub [(1, _)] ⟨rfl, trivial⟩ ?_
      refine (Gives.does (g_fa Try.underlying34 rfl ty22 (by decide) rfl)).mono ?_
      rintro v W2 ⟨rfl, rfl⟩; exact ⟨rfl, hJ⟩
    · refine ⟨[26], rfl, ?_⟩; rintro L W1 vs hL0 hLd hJ hd
      have d26 : vs 26 = .pointer (some ⟨b1, 0 + 17, none⟩) := hd 26 (by decide)
      have hk := hJ.1
      replace hb1 := hb1.keep0 hk
      replace hb3 := hb3.keep0 hk
      replace hB := hB.trans hk
      refine ⟨true, fun a _ => rfl, fun _ => ?_, fun h => by cases h⟩
      refine does_sub [(32, .pointer (some ⟨b1, 0 + 17, none⟩))] ⟨congrArg some d26, trivial⟩ ?_
      refine (Gives.does (g_ldb sc22 rfl hb1 rfl)).mono ?_
      rintro v W2 ⟨rfl, rfl⟩; exact ⟨rfl, hJ⟩
    · refine ⟨[27], rfl, ?_⟩; rintro L W1 vs hL0 hLd hJ hd
      have d27 : vs 27 = y2 := hd 27 (by decide)
      have hk := hJ.1
      replace hb1 := hb1.keep0 hk
      replace hb3 := hb3.keep0 hk
      replace hB := hB.trans hk
      refine ⟨true, fun a _ => rfl, fun _ => ?_, fun h => by cases h⟩
      refine does_sub [(33, y2)] ⟨congrArg some d27, trivial⟩ ?_
      refine (Gives.does (g_len Try.underlying22 rfl (by first | assumption | exact Own.rd (by assumption) | exact Rd.keep0 (by assumption) hB | exact Own.rd (Own.keep0 (by assumption) hB)))).mono ?_
      rintro v W2 ⟨rfl, rfl⟩; exact ⟨rfl, hJ⟩
    · refine ⟨[25, 28], rfl, ?_⟩; rintro L W1 vs hL0 hLd hJ hd
      have d25 : vs 25 = .int .i64 (x.psk.length : Int) := hd 25 (by decide)
      have d28 : vs 28 = .int .i64 (x.nonce.length : Int) := hd 28 (by decide)
      have hk := hJ.1
      replace hb1 := hb1.keep0 hk
      replace hb3 := hb3.keep0 hk
      replace hB := hB.trans hk
      refine ⟨true, fun a _ => rfl, fun _ => ?_, fun h => by cases h⟩
      refine does_sub [(31, .int .i64 (x.psk.length : Int)), (34, .int .i64 (x.nonce.length : Int))] ⟨congrArg some d25, congrArg some d28, trivial⟩ ?_
      refine (Gives.does (g_add rfl rfl (by omega))).mono ?_
      rintro v W2 ⟨rfl, rfl⟩; exact ⟨rfl, hJ⟩
    · refine ⟨[29], rfl, ?_⟩; rintro L W1 vs hL0 hLd hJ hd
      have d29 : vs 29 = .int .i64 ((x.psk.length : Int) + (x.nonce.length : Int)) := hd 29 (by decide)
      have hk := hJ.1
      replace hb1 := hb1.keep0 hk
      replace hb3 := hb3.keep0 hk
      replace hB := hB.trans hk
      refine ⟨true, fun a _ => rfl, fun _ => ?_, fun h => by cases h⟩
      refine does_sub [(35, .int .i64 ((x.psk.length : Int) + (x.nonce.length : Int)))] ⟨congrArg some d29, trivial⟩ ?_
      refine (Gives.does (g_eq rfl rfl)).mono ?_
      rintro v W2 ⟨rfl, rfl⟩; exact ⟨rfl, hJ⟩
    · refine ⟨[0, 30], rfl, ?_⟩; rintro L W1 vs hL0 hLd hJ hd
      have d30 : vs 30 = .bool (decide (((x.psk.length : Int) + (x.nonce.length : Int)) = 0)) := hd 30 (by decide)
      have hk := hJ.1
      replace hb1 := hb1.keep0 hk
      replace hb3 := hb3.keep0 hk
      replace hB := hB.trans hk
      refine ⟨true, fun a _ => rfl, fun _ => ?_, fun h => by cases h⟩
      obtain ⟨m, em, hm0, hM⟩ := hJ.2.2 (hLd 0 (by decide))
      refine does_sub [(9, .map (some m)), (36, .bool (decide (((x.psk.length : Int) + (x.nonce.length : Int)) = 0)))] ⟨congrArg some em, congrArg some d30, trivial⟩ ?_
      refine (d_ins (a := 4) Try.underlying114 Try.underlying3 rfl rfl rfl (by rw [prV_4, Bool.eq_iff_iff]; simp only [decide_eq_true_eq]; omega) hM).mono ?_
      rintro v W2 ⟨k1, hM2⟩; exact ⟨trivial, prJ_ins hJ (i := 31) (by decide) (hLd 0 (by decide)) em hm0 k1 (hM2.sub (fun y hy => by rcases hy with ⟨rfl, h9⟩ | ⟨rfl, h9⟩ | ⟨rfl, h9⟩ | ⟨rfl, h9⟩ | ⟨rfl, h9⟩ <;> first | exact .inl rfl | exact .inr (.inl ⟨rfl, h9⟩) | exact .inr (.inr (.inl ⟨rfl, h9⟩)) | exact .inr (.inr (.inr (.inl ⟨rfl, h9⟩))) | exact .inr (.inr (.inr (.inr (.inl ⟨rfl, h9⟩)))) | exact .inr (.inr (.inr (.inr (.inr ⟨rfl, h9⟩))))))⟩
    · refine ⟨[], rfl, ?_⟩; rintro L W1 vs hL0 hLd hJ hd
      have hk := hJ.1
      replace hb1 := hb1.keep0 hk
      replace hb3 := hb3.keep0 hk
      replace hB := hB.trans hk
      refine ⟨true, fun a _ => rfl, fun _ => ?_, fun h => by cases h⟩
      refine does_sub [(1, _)] ⟨rfl, trivial⟩ ?_
      refine (Gives.does (g_fa Try.underlying34 rfl ty22 (by decide) rfl)).mono ?_
      rintro v W2 ⟨rfl, rfl⟩; exact ⟨rfl, hJ⟩
    · refine ⟨[32], rfl, ?_⟩; rintro L W1 vs hL0 hLd hJ hd
      have d32 : vs 32 = .pointer (some ⟨b1, 0 + 18, none⟩) := hd 32 (by decide)
      have hk := hJ.1
      replace hb1 := hb1.keep0 hk
      replace hb3 := hb3.keep0 hk
      replace hB := hB.trans hk
      refine ⟨true, fun a _ => rfl, fun _ => ?_, fun h => by cases h⟩
      refine does_sub [(37, .pointer (some ⟨b1, 0 + 18, none⟩))] ⟨congrArg some d32, trivial⟩ ?_
      refine (Gives.does (g_ldb sc22 rfl hb1 rfl)).mono ?_
      rintro v W2 ⟨rfl, rfl⟩; exact ⟨rfl, hJ⟩
    · refine ⟨[33], rfl, ?_⟩; rintro L W1 vs hL0 hLd hJ hd
      have d33 : vs 33 = y3 := hd 33 (by decide)
      have hk := hJ.1
      replace hb1 := hb1.keep0 hk
      replace hb3 := hb3.keep0 hk
      replace hB := hB.trans hk
      refine ⟨true, fun a _ => rfl, fun _ => ?_, fun h => by cases h⟩
      refine does_sub [(38, y3)] ⟨congrArg some d33, trivial⟩ ?_
      refine (Gives.does (g_len Try.underlying22 rfl (by first | assumption | exact Own.rd (by assumption) | exact Rd.keep0 (by assumption) hB | exact Own.rd (Own.keep0 (by assumption) hB)))).mono ?_
      rintro v W2 ⟨rfl, rfl⟩; exact ⟨rfl, hJ⟩
    · refine ⟨[34], rfl, ?_⟩; rintro L W1 vs hL0 hLd hJ hd
      have d34 : vs 34 = .int .i64 (x.enc.length : Int) := hd 34 (by decide)
      have hk := hJ.1
      replace hb1 := hb1.keep0 hk
      replace hb3 := hb3.keep0 hk
      replace hB := hB.trans hk
      refine ⟨true, fun a _ => rfl, fun _ => ?_, fun h => by cases h⟩
      refine does_sub [(39, .int .i64 (x.enc.length : Int))] ⟨congrArg some d34, trivial⟩ ?_
      refine (Gives.does (g_eq rfl rfl)).mono ?_
      rintro v W2 ⟨rfl, rfl⟩; exact ⟨rfl, hJ⟩
    · refine ⟨[0, 35], rfl, ?_⟩; rintro L W1 vs hL0 hLd hJ hd
      have d35 : vs 35 = .bool (decide ((x.enc.length : Int) = 0)) := hd 35 (by decide)
      have hk := hJ.1
      replace hb1 := hb1.keep0 hk
      replace hb3 := hb3.keep0 hk
      replace hB := hB.trans hk
      refine ⟨true, fun a _ => rfl, fun _ => ?_, fun h => by cases h⟩
      obtain ⟨m, em, hm0, hM⟩ := hJ.2.2 (hLd 0 (by decide))
      refine does_sub [(9, .map (some m)), (40, .bool (decide ((x.enc.length : Int) = 0)))] ⟨congrArg some em, congrArg some d35, trivial⟩ ?_
      refine (d_ins (a := 6) Try.underlying114 Try.underlying3 rfl rfl rfl (by rw [prV_6, Bool.eq_iff_iff]; simp only [decide_eq_true_eq]; omega) hM).mono ?_
      rintro v W2 ⟨k1, hM2⟩; exact ⟨trivial, prJ_ins hJ (i := 36) (by decide) (hLd 0 (by decide)) em hm0 k1 (hM2.sub (fun y hy => by rcases hy with ⟨rfl, h9⟩ | ⟨rfl, h9⟩ | ⟨rfl, h9⟩ | ⟨rfl, h9⟩ | ⟨rfl, h9⟩ <;> first | exact .inl rfl | exact .inr (.inl ⟨rfl, h9⟩) | exact .inr (.inr (.inl ⟨rfl, h9⟩)) | exact .inr (.inr (.inr (.inl ⟨rfl, h9⟩))) | exact .inr (.inr (.inr (.inr (.inl ⟨rfl, h9⟩)))) | exact .inr (.inr (.inr (.inr (.inr ⟨rfl, h9⟩))))))⟩
  rintro w4 L hL vs hJ hS
  obtain ⟨m, em, hm0, hM⟩ := hJ.2.2 (hL 0 (by decide))
  have kJ := hJ.1
  replace hb1 := hb1.keep0 kJ
  replace hb3 := hb3.keep0 kJ
  replace hB := hB.trans kJ
  replace hM := hM.sub (ks' := prAll) (fun y hy => by rcases hy with rfl | rfl | rfl | rfl | rfl; exact .inl ⟨rfl, hL 14 (by decide)⟩; exact .inr (.inl ⟨rfl, hL 18 (by decide)⟩); exact .inr (.inr (.inl ⟨rfl, hL 22 (by decide)⟩)); exact .inr (.inr (.inr (.inl ⟨rfl, hL 31 (by decide)⟩))); exact .inr (.inr (.inr (.inr ⟨rfl, hL 36 (by decide)⟩))))
  refine ow_keep [(9, .map (some m)), (0, _), (1, _), (2, _), (7, _), (8, _), (3, _)] ⟨congrArg some em, rfl, rfl, rfl, rfl, rfl, rfl, trivial⟩ ?_
  refine ow_g (g_mv rfl) rfl ?_
  have hml := hM.lt
  refine ow_d (d_rng (prQ x) Try.underlying114 rfl hM) rfl ?_
  rintro _ w5 ⟨r, rfl, hr0, k4, cn0, hR⟩
  have lr_b1 := hb1.lt
  have lr_b2 := hb3.lt
  replace hb1 := hb1.keep0 k4
  replace hb3 := hb3.keep0 k4
  replace hB := hB.trans k4
  have ge_r : w.heap.size ≤ r := by omega
  have hmr : m ≠ r := by omega
  have nr_b1 : b1 ≠ r := by omega
  have nr_b2 : b2 ≠ r := by omega
  refine ow_nil ?_
  refine tw_block ?_
  refine tw_loop (Γ := Nat) (fun cn => [(1, .pointer (some ⟨b1, 0, none⟩)), (3, .pointer (some ⟨b2, 0, none⟩)), (42, .pointer (some ⟨r, 0, none⟩))]) (fun cn W => MpR W m r (prV x) prAll (prQ x) cn ∧ Bk W b1 34 [.int .i64 x.kind, i, e, s, n, .int .i64 x.pk.leaf.src, h, g, gg, e2, s2, n2, .int .i64 x.lf.src, h2, g2, .int .i64 x.ix, y1, y2, y3] ∧ Bk W b2 32 [i, e, s, n, .int .i64 x.pk.leaf.src, h, g, gg] ∧ Keep [] w W) (fun cn => cn) cn0 ⟨rfl, rfl, rfl, trivial⟩ (⟨hR, hb1, hb3, hB⟩) ?_
  rintro cn w6 ⟨hR, hbx1, hbx2, hB⟩
  refine tw_keep [(1, .pointer (some ⟨b1, 0, none⟩)), (3, .pointer (some ⟨b2, 0, none⟩)), (42, .pointer (some ⟨r, 0, none⟩))] ⟨rfl, rfl, rfl, trivial⟩ ?_
  refine tw_seq ?_
  refine tw_region ?_
  refine ow_d (d_nxtU rfl hmr hR) rfl ?_
  rintro _ w7 ⟨bo, rest, rfl, k5, hN, hY⟩
  replace hbx1 := hbx1.keep k5 (fun hm => absurd (List.mem_singleton.1 hm) nr_b1)
  replace hbx2 := hbx2.keep k5 (fun hm => absurd (List.mem_singleton.1 hm) nr_b2)
  replace hB := hB.new k5 (fun y hy => .inl ((List.mem_singleton.1 hy) ▸ ge_r))
  refine ow_g (g_ext (vs := .bool bo :: rest) rfl rfl) rfl ?_
  refine ow_nil ?_
  refine tw_seq ?_
  refine tw_cond rfl (fun hc1 => ?_) (fun hc1 => ?_)
  · -- yes
    have hd1 := hc1
    try (simp only [Bool.and_eq_true, Bool.or_eq_true, decide_eq_true_eq, Bool.and_eq_false_iff, Bool.or_eq_false_iff, decide_eq_false_iff_not, Bool.not_eq_true', Bool.not_eq_false', Bool.not_eq_true, Bool.not_eq_false, ne_eq, Decidable.not_not, decide_true, decide_false, Bool.true_and, Bool.false_and, Bool.or_false, Bool.false_or, not_true_eq_false, false_or, or_false, true_and, and_true, not_false_eq_true, reduceCtorEq] at hd1)
    refine tw_skip ?_
    refine tw_block ?_
    refine tw_seq ?_
    refine tw_region ?_
    obtain ⟨y, c2, hlt, hE⟩ := hY hc1
    refine ow_g (g_ent rfl hE) rfl ?_
    refine ow_g (g_ext (vs := [_, _]) rfl rfl) rfl ?_
    refine ow_g (g_ext (vs := [_, _]) rfl rfl) rfl ?_
    refine ow_g (g_as rfl) rfl ?_
    refine ow_g (g_as rfl) rfl ?_
    refine ow_nil ?_
    refine tw_seq ?_
    refine tw_region ?_
    refine ow_g (g_mv rfl) rfl ?_
    refine ow_g (g_fa Try.underlying34 rfl ty3 (by decide) rfl) rfl ?_
    refine ow_g (g_ldb sc3 rfl hbx1 rfl) rfl ?_
    refine ow_g (g_ne rfl rfl) rfl ?_
    refine ow_g (g_mv rfl) rfl ?_
    refine ow_grp 52 true rfl (fun c1 hgc1 => ?_)
    refine ow_gg [(5, _)] (grd1 rfl rfl rfl hgc1) ⟨und0 rfl, trivial⟩ (fun hw1 => g_mv rfl) rfl ?_
    refine ow_gg [(53, _)] (grd1 rfl rfl rfl hgc1) ⟨und1 rfl, trivial⟩ (fun hw2 => g_not rfl) rfl ?_
    refine ow_g (g_pand rfl rfl hgc1) rfl ?_
    refine ow_nil ?_
    refine tw_keep [(1, _), (3, _), (42, _), (55, _)] ⟨rfl, rfl, rfl, rfl, trivial⟩ ?_
    refine tw_cond rfl (fun hc2 => ?_) (fun hc2 => ?_)
    · -- yes
      have hd2 := hc2
      try (simp only [Bool.and_eq_true, Bool.or_eq_true, decide_eq_true_eq, Bool.and_eq_false_iff, Bool.or_eq_false_iff, decide_eq_false_iff_not, Bool.not_eq_true', Bool.not_eq_false', Bool.not_eq_true, Bool.not_eq_false, ne_eq, Decidable.not_not, decide_true, decide_false, Bool.true_and, Bool.false_and, Bool.or_false, Bool.false_or, not_true_eq_false, false_or, or_false, true_and, and_true, not_false_eq_true, reduceCtorEq] at hd2)
      refine tw_seq ?_
      refine tw_region ?_
      refine ow_g (g_as rfl) rfl ?_
      refine ow_nil ?_
      refine tw_ret1 hfin Try.results26 rfl ?_
      have hno : prBare x = false := by
        simp only [Bool.and_eq_true, decide_eq_true_eq, Bool.not_eq_true'] at hc2
        exact prBare_no hc2.1 hc2.2
      exact ⟨by unfold prOk; rw [hno]; rfl, hB⟩
    · -- no
      have hd3 := hc2
      try (simp only [Bool.and_eq_true, Bool.or_eq_true, decide_eq_true_eq, Bool.and_eq_false_iff, Bool.or_eq_false_iff, decide_eq_false_iff_not, Bool.not_eq_true', Bool.not_eq_false', Bool.not_eq_true, Bool.not_eq_false, ne_eq, Decidable.not_not, decide_true, decide_false, Bool.true_and, Bool.false_and, Bool.or_false, Bool.false_or, not_true_eq_false, false_or, or_false, true_and, and_true, not_false_eq_true, reduceCtorEq] at hd3)
      refine tw_skip ?_
      refine tw_b ?_
      refine tw_inv (Γ := Nat) c2 ⟨rfl, rfl, rfl, trivial⟩ (by (try dsimp only); omega) (⟨hE.next (by unfold prQ; assumption), hbx1, hbx2, hB⟩)
  · -- no
    have hd4 := hc1
    try (simp only [Bool.and_eq_true, Bool.or_eq_true, decide_eq_true_eq, Bool.and_eq_false_iff, Bool.or_eq_false_iff, decide_eq_false_iff_not, Bool.not_eq_true', Bool.not_eq_false', Bool.not_eq_true, Bool.not_eq_false, ne_eq, Decidable.not_not, decide_true, decide_false, Bool.true_and, Bool.false_and, Bool.or_false, Bool.false_or, not_true_eq_false, false_or, or_false, true_and, and_true, not_false_eq_true, reduceCtorEq] at hd4)
    refine tw_exit rfl ?_
    refine tw_seq ?_
    refine tw_region ?_
    have hbare := prBare_yes (hN hc1)
    refine ow_g (g_as rfl) rfl ?_
    refine ow_nil ?_
    refine tw_seq ?_
    refine tw_seq ?_
    refine tw_region ?_
    refine ow_g (g_fa Try.underlying34 rfl ty3 (by decide) rfl) rfl ?_
    refine ow_g (g_ldb sc3 rfl hbx1 rfl) rfl ?_
    refine ow_nil ?_
    refine tw_block ?_
    refine tw_seq ?_
    refine tw_region ?_
    refine ow_g (g_eq rfl rfl) rfl ?_
    refine ow_g (g_as rfl) rfl ?_
    refine ow_nil ?_
    refine tw_if rfl (fun hc3 => ?_) (fun hc3 => ?_)
    · -- yes
      refine tw_region ?_
      refine ow_g (g_ldab (cs' := [_, _, _, _, _, _, _, _]) ag32 ty32 rfl hbx2 rfl rfl) rfl ?_
      refine ow_d (d_call (vs := [_]) rfl (putPk_any _ _ _ _ _ _ _ x.pk _ (by first | assumption | exact Own.rd (by assumption) | exact Rd.keep0 (by assumption) hB | exact Own.rd (Own.keep0 (by assumption) hB)) (by first | assumption | exact Own.rd (by assumption) | exact Rd.keep0 (by assumption) hB | exact Own.rd (Own.keep0 (by assumption) hB)) (by first | assumption | exact Own.rd (by assumption) | exact Rd.keep0 (by assumption) hB | exact Own.rd (Own.keep0 (by assumption) hB)) (by first | assumption | exact Own.rd (by assumption) | exact Rd.keep0 (by assumption) hB | exact Own.rd (Own.keep0 (by assumption) hB)) (by first | assumption | exact Own.rd (by assumption) | exact Rd.keep0 (by assumption) hB | exact Own.rd (Own.keep0 (by assumption) hB)) (by first | assumption | exact Own.rd (by assumption) | exact Rd.keep0 (by assumption) hB | exact Own.rd (Own.keep0 (by assumption) hB)) (by first | assumption | exact Own.rd (by assumption) | exact Rd.keep0 (by assumption) hB | exact Own.rd (Own.keep0 (by assumption) hB)))) rfl ?_
      rintro _ w8 ⟨u1, rfl, o1, k6⟩
      have gl_o1 := hB.size
      have sb_b1_o1 := fun x hx => (show x ≠ b1 from by have h1 := (o1.blk x hx).1; have h2 := hbx1.lt; omega)
      have sb_b2_o1 := fun x hx => (show x ≠ b2 from by have h1 := (o1.blk x hx).1; have h2 := hbx2.lt; omega)
      replace hbx1 := hbx1.keep0 k6
      replace hbx2 := hbx2.keep0 k6
      replace hB := hB.trans k6
      have u_o1 := o1.blk
      refine ow_g (g_mv rfl) rfl ?_
      refine ow_g (g_ext (vs := [_, _]) rfl rfl) rfl ?_
      refine ow_g (g_ext (vs := [_, _]) rfl rfl) rfl ?_
      refine ow_g (g_as rfl) rfl ?_
      refine ow_nil ?_
      refine tw_keep [(6, _)] ⟨rfl, trivial⟩ ?_
      refine tw_b ?_
      refine tw_seq ?_
      refine tw_region ?_
      refine ow_g (g_mv rfl) rfl ?_
      refine ow_g (g_eq rfl rfl) rfl ?_
      refine ow_g (g_as rfl) rfl ?_
      refine ow_nil ?_
      refine tw_ret1 hfin Try.results26 rfl ?_
      refine ⟨congrArg Value.bool ?_, hB⟩
      unfold prOk; rw [hbare, Bool.true_and]; unfold prKind; (repeat' split) <;> first | (exfalso; omega) | rfl | (cases pkOk x.pk <;> rfl) | (rw [decide_eq_false (by omega), Bool.and_false]; done) | (rw [decide_eq_true (show x.lf.src = 2 by omega), Bool.and_true]; cases leafOk x.lf <;> rfl) | (rw [Bool.eq_iff_iff]; simp only [Bool.and_eq_true, decide_eq_true_eq] <;> omega)
    · -- no
      refine tw_seq ?_
      refine tw_region ?_
      refine ow_g (g_eq rfl rfl) rfl ?_
      refine ow_g (g_as rfl) rfl ?_
      refine ow_nil ?_
      refine tw_if rfl (fun hc4 => ?_) (fun hc4 => ?_)
      · -- yes
        refine tw_seq ?_
        refine tw_seq ?_
        refine tw_region ?_
        refine ow_g (g_fa Try.underlying34 rfl ty30 (by decide) rfl) rfl ?_
        refine ow_g (g_fa Try.underlying30 rfl ty3 (by decide) rfl) rfl ?_
        refine ow_g (g_ldb sc3 rfl hbx1 rfl) rfl ?_
        refine ow_g (g_ne rfl rfl) rfl ?_
        refine ow_nil ?_
        refine tw_keep [(1, _), (70, _)] ⟨rfl, rfl, trivial⟩ ?_
        refine tw_if rfl (fun hc5 => ?_) (fun hc5 => ?_)
        · -- yes
          refine tw_seq ?_
          refine tw_region ?_
          refine ow_g (g_as rfl) rfl ?_
          refine ow_nil ?_
          refine tw_ret1 hfin Try.results26 rfl ?_
          refine ⟨congrArg Value.bool ?_, hB⟩
          unfold prOk; rw [hbare, Bool.true_and]; unfold prKind; (repeat' split) <;> first | (exfalso; omega) | rfl | (cases pkOk x.pk <;> rfl) | (rw [decide_eq_false (by omega), Bool.and_false]; done) | (rw [decide_eq_true (show x.lf.src = 2 by omega), Bool.and_true]; cases leafOk x.lf <;> rfl) | (rw [Bool.eq_iff_iff]; simp only [Bool.and_eq_true, decide_eq_true_eq] <;> omega)
        · -- no
          refine tw_skip ?_
          refine tw_region ?_
          refine ow_g (g_fa Try.underlying34 rfl ty30 (by decide) rfl) rfl ?_
          refine ow_g (g_ldab (cs' := [_, _, _, _, _, _]) ag30 ty30 rfl hbx1 rfl rfl) rfl ?_
          refine ow_d (d_call (vs := [_]) rfl (putLeaf_any _ _ _ _ _ x.lf _ (by first | assumption | exact Own.rd (by assumption) | exact Rd.keep0 (by assumption) hB | exact Own.rd (Own.keep0 (by assumption) hB)) (by first | assumption | exact Own.rd (by assumption) | exact Rd.keep0 (by assumption) hB | exact Own.rd (Own.keep0 (by assumption) hB)) (by first | assumption | exact Own.rd (by assumption) | exact Rd.keep0 (by assumption) hB | exact Own.rd (Own.keep0 (by assumption) hB)) (by first | assumption | exact Own.rd (by assumption) | exact Rd.keep0 (by assumption) hB | exact Own.rd (Own.keep0 (by assumption) hB)) (by first | assumption | exact Own.rd (by assumption) | exact Rd.keep0 (by assumption) hB | exact Own.rd (Own.keep0 (by assumption) hB)))) rfl ?_
          rintro _ w9 ⟨u2, rfl, o2, k7⟩
          have gl_o2 := hB.size
          have sb_b1_o2 := fun x hx => (show x ≠ b1 from by have h1 := (o2.blk x hx).1; have h2 := hbx1.lt; omega)
          replace hbx1 := hbx1.keep0 k7
          replace hB := hB.trans k7
          have u_o2 := o2.blk
          refine ow_g (g_mv rfl) rfl ?_
          refine ow_g (g_ext (vs := [_, _]) rfl rfl) rfl ?_
          refine ow_g (g_ext (vs := [_, _]) rfl rfl) rfl ?_
          refine ow_g (g_as rfl) rfl ?_
          refine ow_nil ?_
          refine tw_b ?_
          refine tw_seq ?_
          refine tw_region ?_
          refine ow_g (g_mv rfl) rfl ?_
          refine ow_g (g_eq rfl rfl) rfl ?_
          refine ow_g (g_as rfl) rfl ?_
          refine ow_nil ?_
          refine tw_keep [(2, _)] ⟨rfl, trivial⟩ ?_
          refine tw_ret1 hfin Try.results26 rfl ?_
          refine ⟨congrArg Value.bool ?_, hB⟩
          unfold prOk; rw [hbare, Bool.true_and]; unfold prKind; (repeat' split) <;> first | (exfalso; omega) | rfl | (cases pkOk x.pk <;> rfl) | (rw [decide_eq_false (by omega), Bool.and_false]; done) | (rw [decide_eq_true (show x.lf.src = 2 by omega), Bool.and_true]; cases leafOk x.lf <;> rfl) | (rw [Bool.eq_iff_iff]; simp only [Bool.and_eq_true, decide_eq_true_eq] <;> omega)
      · -- no
        refine tw_seq ?_
        refine tw_region ?_
        refine ow_g (g_eq rfl rfl) rfl ?_
        refine ow_g (g_as rfl) rfl ?_
        refine ow_nil ?_
        refine tw_keep [(1, _), (57, _), (77, _)] ⟨rfl, rfl, rfl, trivial⟩ ?_
        refine tw_if rfl (fun hc6 => ?_) (fun hc6 => ?_)
        · -- yes
          refine tw_seq ?_
          refine tw_region ?_
          refine ow_g (g_fa Try.underlying34 rfl ty3 (by decide) rfl) rfl ?_
          refine ow_g (g_ldb sc3 rfl hbx1 rfl) rfl ?_
          refine ow_g (g_ge rfl rfl) rfl ?_
          refine ow_g (g_mv rfl) rfl ?_
          refine ow_grp 82 true rfl (fun c2 hgc2 => ?_)
          refine ow_gg [(1, _)] (grd1 rfl rfl rfl hgc2) ⟨und0 rfl, trivial⟩ (fun hw3 => g_fa Try.underlying34 rfl ty3 (by decide) rfl) rfl ?_
          refine ow_gg [(83, _)] (grd1 rfl rfl rfl hgc2) ⟨und1 rfl, trivial⟩ (fun hw4 => g_ldb sc3 rfl hbx1 rfl) rfl ?_
          refine ow_gg [(84, _)] (grd1 rfl rfl rfl hgc2) ⟨und1 rfl, trivial⟩ (fun hw5 => g_lt rfl rfl) rfl ?_
          refine ow_g (g_pand rfl rfl hgc2) rfl ?_
          refine ow_g (g_as rfl) rfl ?_
          refine ow_nil ?_
          refine tw_keep [(2, _)] ⟨rfl, trivial⟩ ?_
          refine tw_ret1 hfin Try.results26 rfl ?_
          refine ⟨congrArg Value.bool ?_, hB⟩
          unfold prOk; rw [hbare, Bool.true_and]; unfold prKind; (repeat' split) <;> first | (exfalso; omega) | rfl | (cases pkOk x.pk <;> rfl) | (rw [decide_eq_false (by omega), Bool.and_false]; done) | (rw [decide_eq_true (show x.lf.src = 2 by omega), Bool.and_true]; cases leafOk x.lf <;> rfl) | (rw [Bool.eq_iff_iff]; simp only [Bool.and_eq_true, decide_eq_true_eq] <;> omega)
        · -- no
          refine tw_seq ?_
          refine tw_region ?_
          refine ow_g (g_eq rfl rfl) rfl ?_
          refine ow_g (g_as rfl) rfl ?_
          refine ow_nil ?_
          refine tw_if rfl (fun hc7 => ?_) (fun hc7 => ?_)
          · -- yes
            refine tw_seq ?_
            refine tw_region ?_
            refine ow_g (g_fa Try.underlying34 rfl ty22 (by decide) rfl) rfl ?_
            refine ow_g (g_ldb sc22 rfl hbx1 rfl) rfl ?_
            refine ow_g (g_len Try.underlying22 rfl (by first | assumption | exact Own.rd (by assumption) | exact Rd.keep0 (by assumption) hB | exact Own.rd (Own.keep0 (by assumption) hB))) rfl ?_
            refine ow_g (g_ge rfl rfl) rfl ?_
            refine ow_g (g_mv rfl) rfl ?_
            refine ow_grp 93 true rfl (fun c3 hgc3 => ?_)
            refine ow_gg [(1, _)] (grd1 rfl rfl rfl hgc3) ⟨und0 rfl, trivial⟩ (fun hw6 => g_fa Try.underlying34 rfl ty22 (by decide) rfl) rfl ?_
            refine ow_gg [(94, _)] (grd1 rfl rfl rfl hgc3) ⟨und1 rfl, trivial⟩ (fun hw7 => g_ldb sc22 rfl hbx1 rfl) rfl ?_
            refine ow_gg [(95, _)] (grd1 rfl rfl rfl hgc3) ⟨und1 rfl, trivial⟩ (fun hw8 => g_len Try.underlying22 rfl (by first | assumption | exact Own.rd (by assumption) | exact Rd.keep0 (by assumption) hB | exact Own.rd (Own.keep0 (by assumption) hB))) rfl ?_
            refine ow_gg [(96, _)] (grd1 rfl rfl rfl hgc3) ⟨und1 rfl, trivial⟩ (fun hw9 => g_le rfl rfl) rfl ?_
            refine ow_g (g_pand rfl rfl hgc3) rfl ?_
            refine ow_g (g_mv rfl) rfl ?_
            refine ow_grp 99 true rfl (fun c4 hgc4 => ?_)
            refine ow_gg [(1, _)] (grd1 rfl rfl rfl hgc4) ⟨und0 rfl, trivial⟩ (fun hw10 => g_fa Try.underlying34 rfl ty22 (by decide) rfl) rfl ?_
            refine ow_gg [(100, _)] (grd1 rfl rfl rfl hgc4) ⟨und1 rfl, trivial⟩ (fun hw11 => g_ldb sc22 rfl hbx1 rfl) rfl ?_
            refine ow_gg [(101, _)] (grd1 rfl rfl rfl hgc4) ⟨und1 rfl, trivial⟩ (fun hw12 => g_len Try.underlying22 rfl (by first | assumption | exact Own.rd (by assumption) | exact Rd.keep0 (by assumption) hB | exact Own.rd (Own.keep0 (by assumption) hB))) rfl ?_
            refine ow_gg [(102, _)] (grd1 rfl rfl rfl hgc4) ⟨und1 rfl, trivial⟩ (fun hw13 => g_eq rfl rfl) rfl ?_
            refine ow_g (g_pand rfl rfl hgc4) rfl ?_
            refine ow_g (g_as rfl) rfl ?_
            refine ow_nil ?_
            refine tw_keep [(2, _)] ⟨rfl, trivial⟩ ?_
            refine tw_ret1 hfin Try.results26 rfl ?_
            refine ⟨congrArg Value.bool ?_, hB⟩
            unfold prOk; rw [hbare, Bool.true_and]; unfold prKind; (repeat' split) <;> first | (exfalso; omega) | rfl | (cases pkOk x.pk <;> rfl) | (rw [decide_eq_false (by omega), Bool.and_false]; done) | (rw [decide_eq_true (show x.lf.src = 2 by omega), Bool.and_true]; cases leafOk x.lf <;> rfl) | (rw [Bool.eq_iff_iff]; simp only [Bool.and_eq_true, decide_eq_true_eq] <;> omega)
          · -- no
            refine tw_seq ?_
            refine tw_region ?_
            refine ow_g (g_eq rfl rfl) rfl ?_
            refine ow_g (g_as rfl) rfl ?_
            refine ow_nil ?_
            refine tw_if rfl (fun hc8 => ?_) (fun hc8 => ?_)
            · -- yes
              refine tw_seq ?_
              refine tw_region ?_
              refine ow_g (g_fa Try.underlying34 rfl ty22 (by decide) rfl) rfl ?_
              refine ow_g (g_ldb sc22 rfl hbx1 rfl) rfl ?_
              refine ow_g (g_len Try.underlying22 rfl (by first | assumption | exact Own.rd (by assumption) | exact Rd.keep0 (by assumption) hB | exact Own.rd (Own.keep0 (by assumption) hB))) rfl ?_
              refine ow_g (g_eq rfl rfl) rfl ?_
              refine ow_g (g_as rfl) rfl ?_
              refine ow_nil ?_
              refine tw_keep [(2, _)] ⟨rfl, trivial⟩ ?_
              refine tw_ret1 hfin Try.results26 rfl ?_
              refine ⟨congrArg Value.bool ?_, hB⟩
              unfold prOk; rw [hbare, Bool.true_and]; unfold prKind; (repeat' split) <;> first | (exfalso; omega) | rfl | (cases pkOk x.pk <;> rfl) | (rw [decide_eq_false (by omega), Bool.and_false]; done) | (rw [decide_eq_true (show x.lf.src = 2 by omega), Bool.and_true]; cases leafOk x.lf <;> rfl) | (rw [Bool.eq_iff_iff]; simp only [Bool.and_eq_true, decide_eq_true_eq] <;> omega)
            · -- no
              refine tw_seq ?_
              refine tw_region ?_
              refine ow_g (g_as rfl) rfl ?_
              refine ow_nil ?_
              refine tw_ret1 hfin Try.results26 rfl ?_
              refine ⟨congrArg Value.bool ?_, hB⟩
              unfold prOk; rw [hbare, Bool.true_and]; unfold prKind; (repeat' split) <;> first | (exfalso; omega) | rfl | (cases pkOk x.pk <;> rfl) | (rw [decide_eq_false (by omega), Bool.and_false]; done) | (rw [decide_eq_true (show x.lf.src = 2 by omega), Bool.and_true]; cases leafOk x.lf <;> rfl) | (rw [Bool.eq_iff_iff]; simp only [Bool.and_eq_true, decide_eq_true_eq] <;> omega)
end Go.Proofs.Ytonchmcppekldaa.W
namespace Go.Proofs.Ytonchmcppekldaa.W
open Go Go.Eng Go.Byt
set_option linter.unusedVariables false
set_option linter.unusedSimpArgs false
theorem vecsB_k1 {a : List UInt8} (h : a.length ≤ 1000) : vecsB [a] = vec a ∧ (vecsB [a]).length ≤ 1004 := by
  have e : vecsB [a] = vec a := by
    unfold vecsB
    rw [if_pos (by intro y hy; simp only [List.mem_cons, List.not_mem_nil, or_false] at hy; subst hy; omega)]
    simp [vecs]
  refine ⟨e, ?_⟩
  have := vlen_length a.length
  rw [e]; unfold vec; rw [List.length_append]; omega
theorem vecsB_k2 {a b : List UInt8} (h : a.length ≤ 1000) (h2 : b.length ≤ 1000) : vecsB [a, b] = vec a ++ vec b ∧ (vecsB [a, b]).length ≤ 2008 := by
  have e : vecsB [a, b] = vec a ++ vec b := by
    unfold vecsB
    rw [if_pos (by intro y hy; simp only [List.mem_cons, List.not_mem_nil, or_false] at hy; rcases hy with rfl | rfl <;> omega)]
    simp [vecs]
  refine ⟨e, ?_⟩
  have e1 := vlen_length a.length; have e2 := vlen_length b.length
  rw [e]; unfold vec; simp only [List.length_append]; omega
theorem numB_4 {n : Int} (h : 0 ≤ n ∧ n < 64) : numB 32 n 4 = be n 4 := by
  have : n / 2 ^ (32 : Int).toNat = 0 := by
    have e : (2 : Int) ^ (32 : Int).toNat = 4294967296 := rfl
    rw [e]; omega
  have e : numE 32 n = 0 := by unfold numE; rw [if_neg (by decide), if_neg (by omega)]
  unfold numB; rw [e, if_pos rfl]; rfl
set_option maxRecDepth 100000 in
set_option maxHeartbeats 1000000 in
theorem kvectors_any (v : Value) (ls : List (List UInt8)) (lo : Nat) (w : World) (h : SlL w lo 22 v ls) (hsum : (vecs ls).length ≤ 140737488355328 ∨ ls.length ≤ 1000) : Rets Try.prog 28 [v] w (fun u w' => OwnB w' w.heap.size u (vecsB ls) ∧ Keep [] w w') := by
 have hB : Keep [] w w := Keep.refl _ _
 obtain ⟨us, h1, h2, h3⟩ := h
 replace h3 := h3.rd
 rw [← h1] at h3
 refine rets_of_tw Try.func28 rfl (by decide) Try.ntmps28 rfl (fun fin _ hfin => ?_)
 refine tw_seq (tw_region (ow_g (g_as rfl) rfl (ow_nil (tw_seq (tw_region (ow_g (g_mv rfl) rfl ?_))))))
 refine ow_d (d_call (vs := [_]) rfl (vectorsN_any _ us ls _ (Rd.keep0 h3 hB) (RdL.keep0 h2 hB) hsum)) rfl ?_
 rintro _ w1 ⟨v1, rfl, o1, k1⟩
 have gl_o1 := hB.size
 replace hB := hB.trans k1
 have u_o1 := o1.blk
 refine ow_g (g_mv rfl) rfl (ow_g (g_ext (vs := [_, _]) rfl rfl) rfl ?_)
 refine ow_g (g_ext (vs := [_, _]) rfl rfl) rfl ?_
 refine ow_g (g_as rfl) rfl (ow_g (g_as rfl) rfl (ow_nil (tw_seq (tw_region (ow_g (g_mv rfl) rfl (ow_g (g_as rfl) rfl ?_))))))
 refine ow_nil (tw_ret1 hfin Try.results28 rfl ?_)
 exact ⟨‹OwnB _ _ _ _›.lo (Nat.le_refl _), hB⟩
set_option maxRecDepth 100000 in
set_option maxHeartbeats 1000000 in
theorem kput_any (i e s n h g gg e2 s2 n2 h2 g2 y1 y2 y3 : Value) (x : Pr) (w : World) (hi : RdB w i x.pk.init) (he : RdB w e x.pk.leaf.enc) (hs : RdB w s x.pk.leaf.sig) (hn : RdB w n x.pk.leaf.name) (hh : RdB w h x.pk.leaf.hash) (hg : RdB w g x.pk.leaf.sg) (hgg : RdB w gg x.pk.sg) (he2 : RdB w e2 x.lf.enc) (hs2 : RdB w s2 x.lf.sig) (hn2 : RdB w n2 x.lf.name) (hh2 : RdB w h2 x.lf.hash) (hg2 : RdB w g2 x.lf.sg) (hy1 : RdB w y1 x.psk) (hy2 : RdB w y2 x.nonce) (hy3 : RdB w y3 x.enc) (t0 : x.pk.init.length ≤ 140737488351232) (t1 : x.pk.leaf.enc.length ≤ 140737488351232) (t2 : x.pk.leaf.sig.length ≤ 140737488351232) (t3 : x.pk.leaf.name.length ≤ 140737488351232) (t4 : x.pk.leaf.hash.length ≤ 140737488351232) (t5 : x.pk.leaf.sg.length ≤ 140737488351232) (t6 : x.pk.sg.length ≤ 140737488351232) (t7 : x.lf.enc.length ≤ 140737488351232) (t8 : x.lf.sig.length ≤ 140737488351232) (t9 : x.lf.name.length ≤ 140737488351232) (t10 : x.lf.hash.length ≤ 140737488351232) (t11 : x.lf.sg.length ≤ 140737488351232) (t12 : x.psk.length ≤ 140737488351232) (t13 : x.nonce.length ≤ 140737488351232) (t14 : x.enc.length ≤ 140737488351232) : Rets Try.prog 7 [.agg [.int .i64 x.kind, i, e, s, n, .int .i64 x.pk.leaf.src, h, g, gg, e2, s2, n2, .int .i64 x.lf.src, h2, g2, .int .i64 x.ix, y1, y2, y3].toArray] w (fun r w' => ∃ u, r = .tuple #[u, .int .i64 (bif prOk x then 0 else 1)] ∧ OwnB w' w.heap.size u (bif prOk x then prB x else []) ∧ Keep [] w w') := by
 have hB : Keep [] w w := Keep.refl _ _
 refine rets_of_tw Try.func7 rfl (by decide) Try.ntmps7 rfl (fun fin _ hfin => ?_)
 refine tw_seq (tw_region (ow_d (d_box (cs := [.int .i64 x.kind, i, e, s, n, .int .i64 x.pk.leaf.src, h, g, gg, e2, s2, n2, .int .i64 x.lf.src, h2, g2, .int .i64 x.ix, y1, y2, y3]) rfl rfl) rfl ?_))
 rintro _ w1 ⟨b1, rfl, eb1, hb1, k1, z1⟩
 have ge_b1 : w.heap.size ≤ b1 := by have := hB.size; omega
 replace hB := hB.trans k1
 clear eb1 z1
 refine ow_g (g_as rfl) rfl (ow_g (g_as rfl) rfl (ow_nil (tw_seq (tw_seq (tw_region (ow_g (g_ldab (cs' := [_, _, _, _, _, _, _, _, _, _, _, _, _, _, _, _, _, _, _]) ag34 ty34 rfl hb1 rfl rfl) rfl ?_))))))
 refine ow_d (d_call (vs := [_]) rfl (rightK_any _ _ _ _ _ _ _ _ _ _ _ _ _ _ _ x _ (by first | assumption | exact Own.rd ‹_› | exact Rd.keep0 ‹_› hB | exact Own.rd (Own.keep0 ‹_› hB)) (by first | assumption | exact Own.rd ‹_› | exact Rd.keep0 ‹_› hB | exact Own.rd (Own.keep0 ‹_› hB)) (by first | assumption | exact Own.rd ‹_› | exact Rd.keep0 ‹_› hB | exact Own.rd (Own.keep0 ‹_› hB)) (by first | assumption | exact Own.rd ‹_› | exact Rd.keep0 ‹_› hB | exact Own.rd (Own.keep0 ‹_› hB)) (by first | assumption | exact Own.rd ‹_› | exact Rd.keep0 ‹_› hB | exact Own.rd (Own.keep0 ‹_› hB)) (by first | assumption | exact Own.rd ‹_› | exact Rd.keep0 ‹_› hB | exact Own.rd (Own.keep0 ‹_› hB)) (by first | assumption | exact Own.rd ‹_› | exact Rd.keep0 ‹_› hB | exact Own.rd (Own.keep0 ‹_› hB)) (by first | assumption | exact Own.rd ‹_› | exact Rd.keep0 ‹_› hB | exact Own.rd (Own.keep0 ‹_› hB)) (by first | assumption | exact Own.rd ‹_› | exact Rd.keep0 ‹_› hB | exact Own.rd (Own.keep0 ‹_› hB)) (by first | assumption | exact Own.rd ‹_› | exact Rd.keep0 ‹_› hB | exact Own.rd (Own.keep0 ‹_› hB)) (by first | assumption | exact Own.rd ‹_› | exact Rd.keep0 ‹_› hB | exact Own.rd (Own.keep0 ‹_› hB)) (by first | assumption | exact Own.rd ‹_› | exact Rd.keep0 ‹_› hB | exact Own.rd (Own.keep0 ‹_› hB)) (by first | assumption | exact Own.rd ‹_› | exact Rd.keep0 ‹_› hB | exact Own.rd (Own.keep0 ‹_› hB)) (by first | assumption | exact Own.rd ‹_› | exact Rd.keep0 ‹_› hB | exact Own.rd (Own.keep0 ‹_› hB)) (by first | assumption | exact Own.rd ‹_› | exact Rd.keep0 ‹_› hB | exact Own.rd (Own.keep0 ‹_› hB)) t0 t1 t2 t3 t4 t5 t6 t7 t8 t9 t10 t11 t12 t13 t14)) rfl ?_
 rintro _ w2 ⟨rfl, k2⟩
 replace hb1 := hb1.keep0 k2
 replace hB := hB.trans k2
 refine ow_g (g_not rfl) rfl ?_
 refine ow_nil (tw_cond rfl (fun hc1 => ?_) (fun hc1 => ?_))
 ·
  have hd1 := hc1
  try (simp only [Bool.and_eq_true, Bool.or_eq_true, decide_eq_true_eq, Bool.and_eq_false_iff, Bool.or_eq_false_iff, decide_eq_false_iff_not, Bool.not_eq_true', Bool.not_eq_false', Bool.not_eq_true, Bool.not_eq_false, ne_eq, Decidable.not_not, decide_true, decide_false, Bool.true_and, Bool.false_and, Bool.or_false, Bool.false_or, not_true_eq_false, false_or, or_false, true_and, and_true, not_false_eq_true, reduceCtorEq] at hd1)
  refine tw_seq (tw_region (ow_g (g_as rfl) rfl (ow_g (g_as rfl) rfl (ow_nil (tw_ret2 hfin Try.results7 rfl rfl ?_)))))
  have hok : prOk x = false := by simpa using hc1
  exact ⟨_, by rw [hok]; rfl, by rw [hok]; exact own_nil _ _ _ _, hB⟩
 ·
  have hd2 := hc1
  try (simp only [Bool.and_eq_true, Bool.or_eq_true, decide_eq_true_eq, Bool.and_eq_false_iff, Bool.or_eq_false_iff, decide_eq_false_iff_not, Bool.not_eq_true', Bool.not_eq_false', Bool.not_eq_true, Bool.not_eq_false, ne_eq, Decidable.not_not, decide_true, decide_false, Bool.true_and, Bool.false_and, Bool.or_false, Bool.false_or, not_true_eq_false, false_or, or_false, true_and, and_true, not_false_eq_true, reduceCtorEq] at hd2)
  refine tw_skip (tw_seq (tw_region (ow_g (g_fa Try.underlying34 rfl ty3 (by decide) rfl) rfl ?_)))
  refine ow_g (g_ldb sc3 rfl hb1 rfl) rfl ?_
  refine ow_g (g_cv (by rw [Try.underlying3]; rfl) Try.underlying5 rfl) rfl ?_
  have hok : prOk x = true := by simpa using hc1
  have ltb1 := hb1.lt
  refine ow_d (d_bs (m := 2) (xs := [.const (.int .u8 (0)), .tmp 13]) (vs := [_, _]) Try.underlying22 ty5 (by decide) rfl rfl rfl (by simp only [List.forall_mem_cons]; exact ⟨rfl, rfl, fun v hv => by cases hv⟩) (by decide)) rfl ?_
  rintro v1 w3 ⟨o1, nn1, lb1, k3, z2⟩
  have gl_o1 := hB.size
  have sb_b1_o1 := fun x hx => (show x ≠ b1 from by have h1 := (o1.blk x hx).1; have h2 := hb1.lt; omega)
  replace hb1 := hb1.keep0 k3
  replace hB := hB.trans k3
  have u_o1 := o1.blk
  replace o1 : OwnB w3 (b1 + 1) v1 [0, byteAt x.kind 0] := (show Own _ _ _ 1 _ 2 _ from own_bytes2 (o1.lo ltb1) (by rw [byteAt_toNat, IntKind.wrap_u8]; simp))
  have m0 : ([0, byteAt x.kind 0] : List UInt8).length = 2 := rfl
  refine ow_g (g_as rfl) rfl (ow_nil (tw_keep [(1, _), (4, _)] ⟨rfl, rfl, trivial⟩ ?_))
  refine tw_seq (tw_region (ow_g (g_as rfl) rfl (ow_nil (tw_seq (tw_seq (tw_region ?_))))))
  refine ow_g (g_fa Try.underlying34 rfl ty3 (by decide) rfl) rfl ?_
  refine ow_g (g_ldb sc3 rfl hb1 rfl) rfl ?_
  refine ow_nil (tw_block (tw_seq (tw_block (tw_seq (tw_block (tw_seq ?_))))))
  refine tw_block (tw_seq (tw_block (tw_seq (tw_block (tw_seq (tw_block ?_))))))
  refine tw_seq (tw_seq (tw_seq (tw_region (ow_g (g_eq rfl rfl) rfl ?_))))
  refine ow_g (g_as rfl) rfl (ow_nil (tw_if rfl (fun hc2 => ?_) (fun hc2 => ?_)))
  ·
   refine tw_exit rfl ?_
   refine tw_seq (tw_seq (tw_region ?_))
   have m1 : (be x.ix 4).length = 4 := be_length _ _
   refine ow_g (g_fa Try.underlying34 rfl ty3 (by decide) rfl) rfl ?_
   refine ow_g (g_ldb sc3 rfl hb1 rfl) rfl ?_
   refine ow_d (d_call (vs := [_, _]) rfl (number_any x.ix 4 (by decide) _)) rfl ?_
   rintro _ w4 ⟨u1, rfl, o2, k4⟩
   have gl_o2 := hB.size
   have sb_b1_o2 := fun x hx => (show x ≠ b1 from by have h1 := (o2.blk x hx).1; have h2 := hb1.lt; omega)
   replace hb1 := hb1.keep0 k4
   replace o1 := o1.keep0 k4
   replace hB := hB.trans k4
   have u_o2 := o2.blk
   rw [show bitsOf 4 = 32 from by decide, numB_4 (prOk_3 hok (by omega))] at o2
   replace o2 : OwnB w4 _ u1 (be x.ix 4) := o2
   refine ow_g (g_mv rfl) rfl (ow_g (g_ext (vs := [_, _]) rfl rfl) rfl ?_)
   refine ow_g (g_ext (vs := [_, _]) rfl rfl) rfl ?_
   refine ow_g (g_as rfl) rfl (ow_g (g_as rfl) rfl (ow_nil (tw_keep [(4, _), (6, _)] ⟨rfl, rfl, trivial⟩ ?_)))
   refine tw_seq (tw_region (ow_g (g_mv rfl) rfl (ow_g (g_mv rfl) rfl ?_)))
   have lt_o3 := hb1.lt
   refine ow_d (d_appB Try.underlying22 ty5 rfl o1 rfl (show RdB _ _ _ from o2.rd) (by first | omega | (simp only [List.length_append] at *; omega)) (by omega)) rfl ?_
   rintro v2 w5 ⟨o3, k5, lb2, _⟩
   replace hB := hB.new k5 (fun x hx => .inl (Nat.le_trans ge_b1 (Nat.le_of_lt (o1.blk x hx).1)))
   replace hb1 := hb1.keep k5 (fun hm => absurd (o1.blk _ hm).1 (Nat.lt_irrefl _))
   refine ow_g (g_as rfl) rfl (ow_g (g_as rfl) rfl (ow_nil (tw_ret2 hfin Try.results7 rfl rfl ?_)))
   have hh := o3
   exact ⟨_, by rw [hok]; rfl, by rw [hok]; exact (show OwnB _ _ _ (prB x) from by have e : [0, byteAt x.kind 0] ++ be x.ix 4 = prB x := (by unfold prB prX; rw [if_neg (by omega), if_neg (by omega), if_pos (by omega)]); unfold OwnB; rw [← e]; simp only [List.length_append] at hh ⊢; exact hh).lo (by omega), hB⟩
  ·
   refine tw_skip (tw_seq (tw_seq (tw_region (ow_g (g_eq rfl rfl) rfl ?_))))
   refine ow_g (g_as rfl) rfl (ow_nil (tw_if rfl (fun hc3 => ?_) (fun hc3 => ?_)))
   ·
    refine tw_exit rfl ?_
    refine tw_seq (tw_seq (tw_region (ow_g (g_mv rfl) rfl ?_)))
    have q1 := prOk_4 hok (by omega)
    obtain ⟨e1, m1⟩ := vecsB_k2 (a := x.psk) (b := x.nonce) (by omega) (by omega)
    refine ow_g (g_fa Try.underlying34 rfl ty22 (by decide) rfl) rfl ?_
    refine ow_g (g_ldb sc22 rfl hb1 rfl) rfl ?_
    refine ow_g (g_fa Try.underlying34 rfl ty22 (by decide) rfl) rfl ?_
    refine ow_g (g_ldb sc22 rfl hb1 rfl) rfl ?_
    refine ow_d (d_bsL (m := 2) (ls := [x.psk, x.nonce]) (xs := [.tmp 38, .tmp 40]) (us := [_, _]) Try.underlying74 ty22 rfl rfl (rdL_cons (by first | exact Rd.nil _ _ | exact (by first | assumption | exact Own.rd ‹_› | exact Rd.keep0 ‹_› hB | exact Own.rd (Own.keep0 ‹_› hB))) (rdL_cons (by first | exact Rd.nil _ _ | exact (by first | assumption | exact Own.rd ‹_› | exact Rd.keep0 ‹_› hB | exact Own.rd (Own.keep0 ‹_› hB))) (rdL_nil _))) rfl rfl) rfl ?_
    rintro v3 w6 ⟨sl1, k6⟩
    replace hb1 := hb1.keep0 k6
    replace o1 := o1.keep0 k6
    replace hB := hB.trans k6
    refine ow_d (d_call (vs := [_]) rfl (kvectors_any _ [x.psk, x.nonce] _ _ ‹_› (.inr (by simp)))) rfl ?_
    rintro v4 w7 ⟨o5, k7⟩
    have gl_o5 := hB.size
    have sb_b1_o5 := fun x hx => (show x ≠ b1 from by have h1 := (o5.blk x hx).1; have h2 := hb1.lt; omega)
    replace hb1 := hb1.keep0 k7
    replace o1 := o1.keep0 k7
    replace sl1 := sl1.keep0 k7
    replace hB := hB.trans k7
    have u_o5 := o5.blk
    have lt_o6 := hb1.lt
    refine ow_d (d_appB Try.underlying22 ty5 rfl o1 rfl (show RdB _ _ _ from o5.rd) (by first | omega | (simp only [List.length_append] at *; omega)) (by omega)) rfl ?_
    rintro v5 w8 ⟨o6, k8, lb3, _⟩
    replace hB := hB.new k8 (fun x hx => .inl (Nat.le_trans ge_b1 (Nat.le_of_lt (o1.blk x hx).1)))
    replace hb1 := hb1.keep k8 (fun hm => absurd (o1.blk _ hm).1 (Nat.lt_irrefl _))
    refine ow_g (g_as rfl) rfl (ow_g (g_as rfl) rfl (ow_nil (tw_keep [(2, _), (3, _)] ⟨rfl, rfl, trivial⟩ ?_)))
    refine tw_ret2 hfin Try.results7 rfl rfl ?_
    have hh := o6
    exact ⟨_, by rw [hok]; rfl, by rw [hok]; exact (show OwnB _ _ _ (prB x) from by have e : [0, byteAt x.kind 0] ++ vecsB [x.psk, x.nonce] = prB x := (by unfold prB prX; rw [e1, if_neg (by omega), if_neg (by omega), if_neg (by omega), if_pos (by omega)]); unfold OwnB; rw [← e]; simp only [List.length_append] at hh ⊢; exact hh).lo (by omega), hB⟩
   ·
    refine tw_skip (tw_seq (tw_seq (tw_region (ow_g (g_eq rfl rfl) rfl ?_))))
    refine ow_g (g_as rfl) rfl (ow_nil (tw_if rfl (fun hc4 => ?_) (fun hc4 => ?_)))
    ·
     refine tw_exit rfl ?_
     refine tw_seq (tw_region (ow_g (g_fa Try.underlying34 rfl ty32 (by decide) rfl) rfl ?_))
     refine ow_g (g_ldab (cs' := [_, _, _, _, _, _, _, _]) ag32 ty32 rfl hb1 rfl rfl) rfl ?_
     refine ow_d (d_call (vs := [_]) rfl (putPk_any _ _ _ _ _ _ _ x.pk _ (by first | assumption | exact Own.rd ‹_› | exact Rd.keep0 ‹_› hB | exact Own.rd (Own.keep0 ‹_› hB)) (by first | assumption | exact Own.rd ‹_› | exact Rd.keep0 ‹_› hB | exact Own.rd (Own.keep0 ‹_› hB)) (by first | assumption | exact Own.rd ‹_› | exact Rd.keep0 ‹_› hB | exact Own.rd (Own.keep0 ‹_› hB)) (by first | assumption | exact Own.rd ‹_› | exact Rd.keep0 ‹_› hB | exact Own.rd (Own.keep0 ‹_› hB)) (by first | assumption | exact Own.rd ‹_› | exact Rd.keep0 ‹_› hB | exact Own.rd (Own.keep0 ‹_› hB)) (by first | assumption | exact Own.rd ‹_› | exact Rd.keep0 ‹_› hB | exact Own.rd (Own.keep0 ‹_› hB)) (by first | assumption | exact Own.rd ‹_› | exact Rd.keep0 ‹_› hB | exact Own.rd (Own.keep0 ‹_› hB)))) rfl ?_
     rintro _ w9 ⟨u2, rfl, o7, k9⟩
     have gl_o7 := hB.size
     have sb_b1_o7 := fun x hx => (show x ≠ b1 from by have h1 := (o7.blk x hx).1; have h2 := hb1.lt; omega)
     replace hb1 := hb1.keep0 k9
     replace o1 := o1.keep0 k9
     replace hB := hB.trans k9
     have u_o7 := o7.blk
     rw [prOk_1 hok (by omega), cond_true] at o7
     replace o7 : OwnB w9 _ u2 (pkB x.pk) := o7
     refine ow_g (g_mv rfl) rfl (ow_g (g_ext (vs := [_, _]) rfl rfl) rfl ?_)
     refine ow_g (g_ext (vs := [_, _]) rfl rfl) rfl ?_
     refine ow_g (g_as rfl) rfl (ow_nil (tw_keep [(4, _), (5, _)] ⟨rfl, rfl, trivial⟩ ?_))
     refine tw_exit rfl ?_
     refine tw_seq (tw_region (ow_g (g_mv rfl) rfl (ow_g (g_mv rfl) rfl (ow_d (d_bsL (m := 1) (ls := [pkB x.pk]) (xs := [.tmp 59]) (us := [_]) Try.underlying74 ty22 rfl rfl (rdL_cons (by first | exact Rd.nil _ _ | exact (by first | assumption | exact Own.rd ‹_› | exact Rd.keep0 ‹_› hB | exact Own.rd (Own.keep0 ‹_› hB))) (rdL_nil _)) rfl rfl) rfl ?_))))
     rintro v6 w10 ⟨sl2, k10⟩
     replace hb1 := hb1.keep0 k10
     replace o1 := o1.keep0 k10
     replace o7 := o7.keep0 k10
     replace hB := hB.trans k10
     have q1 := pkB_len (prOk_1 hok (by omega))
     obtain ⟨e1, m1⟩ := vecsB_k1 (a := pkB x.pk) (by omega)
     refine ow_d (d_call (vs := [_]) rfl (kvectors_any _ [pkB x.pk] _ _ ‹_› (.inr (by simp)))) rfl ?_
     rintro v7 w11 ⟨o9, k11⟩
     have gl_o9 := hB.size
     have sb_b1_o9 := fun x hx => (show x ≠ b1 from by have h1 := (o9.blk x hx).1; have h2 := hb1.lt; omega)
     replace hb1 := hb1.keep0 k11
     replace o1 := o1.keep0 k11
     replace o7 := o7.keep0 k11
     replace sl2 := sl2.keep0 k11
     replace hB := hB.trans k11
     have u_o9 := o9.blk
     have lt_o10 := hb1.lt
     refine ow_d (d_appB Try.underlying22 ty5 rfl o1 rfl (show RdB _ _ _ from o9.rd) (by first | omega | (simp only [List.length_append] at *; omega)) (by omega)) rfl ?_
     rintro v8 w12 ⟨o10, k12, lb4, _⟩
     replace hB := hB.new k12 (fun x hx => .inl (Nat.le_trans ge_b1 (Nat.le_of_lt (o1.blk x hx).1)))
     replace hb1 := hb1.keep k12 (fun hm => absurd (o1.blk _ hm).1 (Nat.lt_irrefl _))
     refine ow_g (g_as rfl) rfl (ow_g (g_as rfl) rfl (ow_nil (tw_ret2 hfin Try.results7 rfl rfl ?_)))
     have hh := o10
     exact ⟨_, by rw [hok]; rfl, by rw [hok]; exact (show OwnB _ _ _ (prB x) from by have e : [0, byteAt x.kind 0] ++ vecsB [pkB x.pk] = prB x := (by unfold prB prX; rw [e1, if_pos (by omega)]); unfold OwnB; rw [← e]; simp only [List.length_append] at hh ⊢; exact hh).lo (by omega), hB⟩
    ·
     refine tw_skip (tw_seq (tw_seq (tw_region (ow_g (g_eq rfl rfl) rfl ?_))))
     refine ow_g (g_as rfl) rfl (ow_nil (tw_if rfl (fun hc5 => ?_) (fun hc5 => ?_)))
     ·
      refine tw_exit rfl ?_
      refine tw_seq (tw_region (ow_g (g_fa Try.underlying34 rfl ty30 (by decide) rfl) rfl ?_))
      refine ow_g (g_ldab (cs' := [_, _, _, _, _, _]) ag30 ty30 rfl hb1 rfl rfl) rfl ?_
      refine ow_d (d_call (vs := [_]) rfl (putLeaf_any _ _ _ _ _ x.lf _ (by first | assumption | exact Own.rd ‹_› | exact Rd.keep0 ‹_› hB | exact Own.rd (Own.keep0 ‹_› hB)) (by first | assumption | exact Own.rd ‹_› | exact Rd.keep0 ‹_› hB | exact Own.rd (Own.keep0 ‹_› hB)) (by first | assumption | exact Own.rd ‹_› | exact Rd.keep0 ‹_› hB | exact Own.rd (Own.keep0 ‹_› hB)) (by first | assumption | exact Own.rd ‹_› | exact Rd.keep0 ‹_› hB | exact Own.rd (Own.keep0 ‹_› hB)) (by first | assumption | exact Own.rd ‹_› | exact Rd.keep0 ‹_› hB | exact Own.rd (Own.keep0 ‹_› hB)))) rfl ?_
      rintro _ w13 ⟨u3, rfl, o11, k13⟩
      have gl_o11 := hB.size
      have sb_b1_o11 := fun x hx => (show x ≠ b1 from by have h1 := (o11.blk x hx).1; have h2 := hb1.lt; omega)
      replace hb1 := hb1.keep0 k13
      replace o1 := o1.keep0 k13
      replace hB := hB.trans k13
      have u_o11 := o11.blk
      rw [(prOk_2 hok (by omega)).1, cond_true] at o11
      replace o11 : OwnB w13 _ u3 (leafB x.lf) := o11
      refine ow_g (g_mv rfl) rfl (ow_g (g_ext (vs := [_, _]) rfl rfl) rfl ?_)
      refine ow_g (g_ext (vs := [_, _]) rfl rfl) rfl ?_
      refine ow_g (g_as rfl) rfl (ow_nil (tw_keep [(4, _), (5, _)] ⟨rfl, rfl, trivial⟩ ?_))
      refine tw_exit rfl ?_
      refine tw_seq (tw_region (ow_g (g_mv rfl) rfl (ow_g (g_mv rfl) rfl (ow_d (d_bsL (m := 1) (ls := [leafB x.lf]) (xs := [.tmp 59]) (us := [_]) Try.underlying74 ty22 rfl rfl (rdL_cons (by first | exact Rd.nil _ _ | exact (by first | assumption | exact Own.rd ‹_› | exact Rd.keep0 ‹_› hB | exact Own.rd (Own.keep0 ‹_› hB))) (rdL_nil _)) rfl rfl) rfl ?_))))
      rintro v9 w14 ⟨sl3, k14⟩
      replace hb1 := hb1.keep0 k14
      replace o1 := o1.keep0 k14
      replace o11 := o11.keep0 k14
      replace hB := hB.trans k14
      have q1 := leafB_len (prOk_2 hok (by omega)).1
      obtain ⟨e1, m1⟩ := vecsB_k1 (a := leafB x.lf) (by omega)
      refine ow_d (d_call (vs := [_]) rfl (kvectors_any _ [leafB x.lf] _ _ ‹_› (.inr (by simp)))) rfl ?_
      rintro v10 w15 ⟨o13, k15⟩
      have gl_o13 := hB.size
      have sb_b1_o13 := fun x hx => (show x ≠ b1 from by have h1 := (o13.blk x hx).1; have h2 := hb1.lt; omega)
      replace hb1 := hb1.keep0 k15
      replace o1 := o1.keep0 k15
      replace o11 := o11.keep0 k15
      replace sl3 := sl3.keep0 k15
      replace hB := hB.trans k15
      have u_o13 := o13.blk
      have lt_o14 := hb1.lt
      refine ow_d (d_appB Try.underlying22 ty5 rfl o1 rfl (show RdB _ _ _ from o13.rd) (by first | omega | (simp only [List.length_append] at *; omega)) (by omega)) rfl ?_
      rintro v11 w16 ⟨o14, k16, lb5, _⟩
      replace hB := hB.new k16 (fun x hx => .inl (Nat.le_trans ge_b1 (Nat.le_of_lt (o1.blk x hx).1)))
      replace hb1 := hb1.keep k16 (fun hm => absurd (o1.blk _ hm).1 (Nat.lt_irrefl _))
      refine ow_g (g_as rfl) rfl (ow_g (g_as rfl) rfl (ow_nil (tw_ret2 hfin Try.results7 rfl rfl ?_)))
      have hh := o14
      exact ⟨_, by rw [hok]; rfl, by rw [hok]; exact (show OwnB _ _ _ (prB x) from by have e : [0, byteAt x.kind 0] ++ vecsB [leafB x.lf] = prB x := (by unfold prB prX; rw [e1, if_neg (by omega), if_pos (by omega)]); unfold OwnB; rw [← e]; simp only [List.length_append] at hh ⊢; exact hh).lo (by omega), hB⟩
     ·
      refine tw_skip (tw_seq (tw_region (ow_g (g_eq rfl rfl) rfl ?_)))
      refine ow_g (g_as rfl) rfl (ow_nil (tw_keep [(1, _), (4, _), (5, _), (25, _)] ⟨rfl, rfl, rfl, rfl, trivial⟩ ?_))
      refine tw_if rfl (fun hc6 => ?_) (fun hc6 => ?_)
      ·
       refine tw_exit rfl ?_
       refine tw_region (ow_g (g_fa Try.underlying34 rfl ty22 (by decide) rfl) rfl ?_)
       refine ow_g (g_ldb sc22 rfl hb1 rfl) rfl ?_
       refine ow_g (g_as rfl) rfl (ow_nil (tw_b (tw_exit rfl ?_)))
       refine tw_seq (tw_region (ow_g (g_mv rfl) rfl (ow_g (g_mv rfl) rfl (ow_d (d_bsL (m := 1) (ls := [x.enc]) (xs := [.tmp 59]) (us := [_]) Try.underlying74 ty22 rfl rfl (rdL_cons (by first | exact Rd.nil _ _ | exact (by first | assumption | exact Own.rd ‹_› | exact Rd.keep0 ‹_› hB | exact Own.rd (Own.keep0 ‹_› hB))) (rdL_nil _)) rfl rfl) rfl ?_))))
       rintro v12 w17 ⟨sl4, k17⟩
       replace hb1 := hb1.keep0 k17
       replace o1 := o1.keep0 k17
       replace hB := hB.trans k17
       have q1 := prOk_6 hok (by omega) (by omega) (by omega) (by omega)
       obtain ⟨e1, m1⟩ := vecsB_k1 (a := x.enc) (by omega)
       refine ow_d (d_call (vs := [_]) rfl (kvectors_any _ [x.enc] _ _ ‹_› (.inr (by simp)))) rfl ?_
       rintro v13 w18 ⟨o16, k18⟩
       have gl_o16 := hB.size
       have sb_b1_o16 := fun x hx => (show x ≠ b1 from by have h1 := (o16.blk x hx).1; have h2 := hb1.lt; omega)
       replace hb1 := hb1.keep0 k18
       replace o1 := o1.keep0 k18
       replace sl4 := sl4.keep0 k18
       replace hB := hB.trans k18
       have u_o16 := o16.blk
       have lt_o17 := hb1.lt
       refine ow_d (d_appB Try.underlying22 ty5 rfl o1 rfl (show RdB _ _ _ from o16.rd) (by first | omega | (simp only [List.length_append] at *; omega)) (by omega)) rfl ?_
       rintro v14 w19 ⟨o17, k19, lb6, _⟩
       replace hB := hB.new k19 (fun x hx => .inl (Nat.le_trans ge_b1 (Nat.le_of_lt (o1.blk x hx).1)))
       replace hb1 := hb1.keep k19 (fun hm => absurd (o1.blk _ hm).1 (Nat.lt_irrefl _))
       refine ow_g (g_as rfl) rfl (ow_g (g_as rfl) rfl (ow_nil (tw_keep [(2, _), (3, _)] ⟨rfl, rfl, trivial⟩ ?_)))
       refine tw_ret2 hfin Try.results7 rfl rfl ?_
       have hh := o17
       exact ⟨_, by rw [hok]; rfl, by rw [hok]; exact (show OwnB _ _ _ (prB x) from by have e : [0, byteAt x.kind 0] ++ vecsB [x.enc] = prB x := (by unfold prB prX; rw [e1, if_neg (by omega), if_neg (by omega), if_neg (by omega), if_neg (by omega)]); unfold OwnB; rw [← e]; simp only [List.length_append] at hh ⊢; exact hh).lo (by omega), hB⟩
      ·
       exfalso
       have := prOk_6 hok (by omega) (by omega) (by omega) (by omega)
       omega
end Go.Proofs.Ytonchmcppekldaa.W
namespace Go.Proofs.Ytonchmcppekldaa.W
open Go Go.Eng Go.Byt
set_option linter.unusedVariables false
set_option linter.unusedSimpArgs false
theorem knum2_any (p : Nat) (rest : List UInt8) (e : Int) (w : World) (h : Rdr w p rest e) : Rets Try.prog 37 [.pointer (some ⟨p, 0, none⟩), .int .i64 2] w (fun v w' => v = .int .i64 (rNum 16 rest e 2).1 ∧ Rdr w' p (rNum 16 rest e 2).2.1 (rNum 16 rest e 2).2.2 ∧ Keep [p] w w') := by
  refine (rnumber_any p rest e 2 w h (by decide)).mono ?_
  rintro v w' ⟨r, hr, h1, h2, h3⟩
  rw [show bitsOf 2 = 16 from by decide] at hr; subst hr; exact ⟨h1, h2, h3⟩
theorem knum4_any (p : Nat) (rest : List UInt8) (e : Int) (w : World) (h : Rdr w p rest e) : Rets Try.prog 37 [.pointer (some ⟨p, 0, none⟩), .int .i64 4] w (fun v w' => v = .int .i64 (rNum 32 rest e 4).1 ∧ Rdr w' p (rNum 32 rest e 4).2.1 (rNum 32 rest e 4).2.2 ∧ Keep [p] w w') := by
  refine (rnumber_any p rest e 4 w h (by decide)).mono ?_
  rintro v w' ⟨r, hr, h1, h2, h3⟩
  rw [show bitsOf 4 = 32 from by decide] at hr; subst hr; exact ⟨h1, h2, h3⟩
theorem kp_b (o : Bool) (b c : List UInt8) : (decide ((bif o then (0 : Int) else 1) ≠ 0) || decide (¬ (bif o then b else []) = c)) = !(o && decide (b = c)) := by
  cases o <;> simp
set_option maxRecDepth 100000 in
set_option maxHeartbeats 1000000 in
theorem kget_any (v : Value) (c : List UInt8) (w : World) (hv : RdB w v c) (hc : c.length ≤ 140737488351232) : Rets Try.prog 9 [v] w (fun r w' => ∃ i e s n h g gg e2 s2 n2 h2 g2 y1 y2 y3, r = .tuple #[.agg [.int .i64 (kgR c).kind, i, e, s, n, .int .i64 (kgR c).pk.leaf.src, h, g, gg, e2, s2, n2, .int .i64 (kgR c).lf.src, h2, g2, .int .i64 (kgR c).ix, y1, y2, y3].toArray, .int .i64 (kgE c)] ∧ OwnB w' w.heap.size i (kgR c).pk.init ∧ OwnB w' w.heap.size e (kgR c).pk.leaf.enc ∧ OwnB w' w.heap.size s (kgR c).pk.leaf.sig ∧ OwnB w' w.heap.size n (kgR c).pk.leaf.name ∧ OwnB w' w.heap.size h (kgR c).pk.leaf.hash ∧ OwnB w' w.heap.size g (kgR c).pk.leaf.sg ∧ OwnB w' w.heap.size gg (kgR c).pk.sg ∧ OwnB w' w.heap.size e2 (kgR c).lf.enc ∧ OwnB w' w.heap.size s2 (kgR c).lf.sig ∧ OwnB w' w.heap.size n2 (kgR c).lf.name ∧ OwnB w' w.heap.size h2 (kgR c).lf.hash ∧ OwnB w' w.heap.size g2 (kgR c).lf.sg ∧ OwnB w' w.heap.size y1 (kgR c).psk ∧ OwnB w' w.heap.size y2 (kgR c).nonce ∧ OwnB w' w.heap.size y3 (kgR c).enc ∧ Keep [] w w') := by
 have hB : Keep [] w w := Keep.refl _ _
 have hlV : (kyV c).1.length ≤ 140737488351232 := by have : (kyV c).1.length ≤ 65536 := rVec_out _ _; omega
 have hlW : (kyW c).1.length ≤ 140737488351232 := by have : (kyW c).1.length ≤ 65536 := rVec_out _ _; omega
 obtain ⟨z1, z2, z3, z4⟩ := ky_len c
 have gm := gpR_len (kyV c).1; have lm := glR_len (kyV c).1
 refine rets_of_tw Try.func9 rfl (by decide) Try.ntmps9 rfl (fun fin _ hfin => ?_)
 refine tw_seq (tw_region (ow_d (d_alloc ty34) rfl ?_))
 rintro _ w1 ⟨b1, rfl, eb1, hb1, k1, z1⟩
 have ge_b1 : w.heap.size ≤ b1 := by have := hB.size; omega
 replace hB := hB.trans k1
 clear eb1 z1
 refine ow_g (g_as rfl) rfl (ow_nil (tw_seq (tw_region (ow_g (g_mv rfl) rfl ?_))))
 have zb1 := hb1.lt
 have hs8 := hB.size
 refine ow_d (d_call (vs := [_]) rfl (newL_any _ c _ (hv.keep0 hB) (by omega))) rfl ?_
 rintro _ w2 ⟨p1, rfl, rr, k2⟩
 replace hb1 := hb1.keep0 k2
 replace hB := hB.trans k2
 have gp1 := rr.1
 replace rr := rr.rdr
 have hp1 : b1 < p1 := by omega
 refine ow_g (g_as rfl) rfl (ow_nil (tw_seq (tw_region (ow_g (g_mv rfl) rfl ?_))))
 have lv_km1 := rr.lt
 refine ow_d (d_call (vs := [_, _]) rfl (knum2_any p1 c 0 _ rr)) rfl ?_
 rintro _ w3 ⟨rfl, rr, km1⟩
 have z_km1 := km1.size
 replace hb1 := hb1.keep km1 (fun hm => by have h9 := List.mem_singleton.1 hm; omega)
 replace hB := hB.new km1 (fun x hm => .inl (by have h9 := List.mem_singleton.1 hm; omega))
 have rr : Rdr w3 p1 (kyA c).2.1 (kyA c).2.2 := rr
 show OW _ _ _ _ _ _ ((11, .int .i64 (kyA c).1) :: _) _
 refine ow_g (g_bld (idx := [0]) (xs := [.tmp 11]) (vs := [_]) (css := [[_]]) (out := [_, _, _, _, _, _, _, _, _, _, _, _, _, _, _, _, _, _, _]) pl34 ty34 rfl rfl ⟨rfl, trivial⟩ rfl rfl) rfl ?_
 have lr5 := rr.lt
 refine ow_d (d_alloc ty34) rfl ?_
 rintro _ w4 ⟨b2, rfl, eb2, hb2, k3, z2⟩
 have rlt5 : p1 < b2 := by omega
 have ebk := eb2
 have ge_b2 : w.heap.size ≤ b2 := by have := hB.size; omega
 have ne_b1_b2 : b1 ≠ b2 := by have := hb1.lt; omega
 replace hb1 := hb1.keep0 k3
 replace rr := rr.keep0 k3
 replace hB := hB.trans k3
 clear eb2 z2
 refine ow_d0 (d_sta ty34 rfl rfl rfl (by simp only [List.forall_mem_cons]; refine ⟨rfl, rfl, rfl, rfl, rfl, rfl, rfl, rfl, rfl, rfl, rfl, rfl, rfl, rfl, rfl, rfl, rfl, rfl, rfl, fun v hv => by cases hv⟩) hb2 rfl) ?_
 rintro _ w5 ⟨hb3, k4, z3⟩
 replace hb1 := hb1.keep k4 (fun hm => absurd (List.mem_singleton.1 hm) ne_b1_b2)
 replace rr := rr.keep k4 (fun x hx hm => (fun x (hx : x ≤ p1) => (show x ≠ b2 from by omega)) x hx (List.mem_singleton.1 hm))
 replace hB := hB.new k4 (fun x hx => .inl ((List.mem_singleton.1 hx) ▸ ge_b2))
 clear z3
 replace hb3 : Bk w5 b2 _ [.int .i64 (kyA c).1, .slice none 0 0, .slice none 0 0, .slice none 0 0, .slice none 0 0, .int .i64 0, .slice none 0 0, .slice none 0 0, .slice none 0 0, .slice none 0 0, .slice none 0 0, .slice none 0 0, .int .i64 0, .slice none 0 0, .slice none 0 0, .int .i64 0, .slice none 0 0, .slice none 0 0, .slice none 0 0] := hb3
 refine ow_nil (tw_seq (tw_seq (tw_region (ow_g (g_fa Try.underlying34 rfl ty3 (by decide) rfl) rfl ?_))))
 refine ow_g (g_ldb sc3 rfl hb3 rfl) rfl ?_
 refine ow_nil (tw_block (tw_seq (tw_region (ow_g (g_eq rfl rfl) rfl ?_))))
 refine ow_g (g_as rfl) rfl (ow_nil (tw_if rfl (fun hc1 => ?_) (fun hc1 => ?_)))
 ·
  refine tw_region (ow_g (g_mv rfl) rfl ?_)
  have lv_km2 := rr.lt
  have gw_o1 := hB.size
  have lb_o1_b1 := hb1.lt
  have lb_o1_b2 := hb3.lt
  refine ow_d (d_call (vs := [_]) rfl (vector_any p1 (kyA c).2.1 (kyA c).2.2 _ rr (by omega))) rfl ?_
  rintro v1 w6 ⟨_, rfl, o1, rr, km2⟩
  have gl_o1 := hB.size
  have sb_b1_o1 := fun x hx => (show x ≠ b1 from by have h1 := (o1.blk x hx).1; have h2 := hb1.lt; omega)
  have sb_b2_o1 := fun x hx => (show x ≠ b2 from by have h1 := (o1.blk x hx).1; have h2 := hb3.lt; omega)
  have z_km2 := km2.size
  replace hb1 := hb1.keep km2 (fun hm => by have h9 := List.mem_singleton.1 hm; omega)
  replace hb3 := hb3.keep km2 (fun hm => by have h9 := List.mem_singleton.1 hm; omega)
  replace hB := hB.new km2 (fun x hm => .inl (by have h9 := List.mem_singleton.1 hm; omega))
  have rr : Rdr w6 p1 (kyV c).2.1 (kyV c).2.2 := rr
  replace o1 : OwnB w6 w5.heap.size v1 (kyV c).1 := o1
  have u_o1 := o1.blk
  have lc_b1 := hb1.lt
  have lc_b2 := hb3.lt
  have gwQ := hB.size
  have lcr := rr.lt
  refine ow_d (d_call (vs := [_]) rfl (getPk_any _ (kyV c).1 _ o1.rd hlV)) rfl ?_
  rintro _ w7 ⟨q0, q1, q2, q3, q4, q5, q6, rfl, o70, o71, o72, o73, o74, o75, o76, k5⟩
  replace hb1 := hb1.keep0 k5
  replace rr := rr.keep0 k5
  replace hb3 := hb3.keep0 k5
  replace o1 := o1.keep0 k5
  replace hB := hB.trans k5
  have u_o70 := o70.blk
  have u_o71 := o71.blk
  have u_o72 := o72.blk
  have u_o73 := o73.blk
  have u_o74 := o74.blk
  have u_o75 := o75.blk
  have u_o76 := o76.blk
  refine ow_g (g_mv rfl) rfl (ow_g (g_ext (vs := [_, _]) rfl rfl) rfl ?_)
  refine ow_g (g_ext (vs := [_, _]) rfl rfl) rfl ?_
  refine ow_g (g_fa Try.underlying34 rfl ty32 (by decide) rfl) rfl ?_
  refine ow_d0 (d_sta ty32 rfl rfl rfl (by simp only [List.forall_mem_cons]; exact ⟨(Own.rd o70).one, (Own.rd o71).one, (Own.rd o72).one, (Own.rd o73).one, rfl, (Own.rd o74).one, (Own.rd o75).one, (Own.rd o76).one, fun v hv => by cases hv⟩) hb3 rfl) ?_
  rintro _ w8 ⟨hb4, k6, z4⟩
  replace hb1 := hb1.keep k6 (fun hm => absurd (List.mem_singleton.1 hm) ne_b1_b2)
  replace rr := rr.keep k6 (fun x hx hm => (fun x (hx : x ≤ p1) => (show x ≠ b2 from by omega)) x hx (List.mem_singleton.1 hm))
  replace o1 := o1.keep k6 (fun x hx hm => sb_b2_o1 x hx (List.mem_singleton.1 hm))
  replace o70 := o70.keep k6 (fun x hx hm => (fun x hx => (show x ≠ b2 from by have := (o70.blk x hx).1; omega)) x hx (List.mem_singleton.1 hm))
  replace o71 := o71.keep k6 (fun x hx hm => (fun x hx => (show x ≠ b2 from by have := (o71.blk x hx).1; omega)) x hx (List.mem_singleton.1 hm))
  replace o72 := o72.keep k6 (fun x hx hm => (fun x hx => (show x ≠ b2 from by have := (o72.blk x hx).1; omega)) x hx (List.mem_singleton.1 hm))
  replace o73 := o73.keep k6 (fun x hx hm => (fun x hx => (show x ≠ b2 from by have := (o73.blk x hx).1; omega)) x hx (List.mem_singleton.1 hm))
  replace o74 := o74.keep k6 (fun x hx hm => (fun x hx => (show x ≠ b2 from by have := (o74.blk x hx).1; omega)) x hx (List.mem_singleton.1 hm))
  replace o75 := o75.keep k6 (fun x hx hm => (fun x hx => (show x ≠ b2 from by have := (o75.blk x hx).1; omega)) x hx (List.mem_singleton.1 hm))
  replace o76 := o76.keep k6 (fun x hx hm => (fun x hx => (show x ≠ b2 from by have := (o76.blk x hx).1; omega)) x hx (List.mem_singleton.1 hm))
  replace hB := hB.new k6 (fun x hx => .inl ((List.mem_singleton.1 hx) ▸ ge_b2))
  clear z4
  replace hb4 : Bk w8 b2 _ [.int .i64 (kyA c).1, q0, q1, q2, q3, .int .i64 (gpR (kyV c).1).leaf.src, q4, q5, q6, .slice none 0 0, .slice none 0 0, .slice none 0 0, .int .i64 0, .slice none 0 0, .slice none 0 0, .int .i64 0, .slice none 0 0, .slice none 0 0, .slice none 0 0] := hb4
  refine ow_nil (tw_keep [(0, _), (2, _), (5, _)] ⟨rfl, rfl, rfl, trivial⟩ ?_)
  refine tw_b (tw_seq (tw_seq (tw_region (ow_g (g_ldab (cs' := [_, _, _, _, _, _, _, _, _, _, _, _, _, _, _, _, _, _, _]) ag34 ty34 rfl hb4 rfl rfl) rfl ?_))))
  refine ow_d (d_call (vs := [_]) rfl (kput_any _ _ _ _ _ _ _ _ _ _ _ _ _ _ _ ⟨(kyA c).1, gpR (kyV c).1, lf0, 0, [], [], []⟩ _ o70.rd o71.rd o72.rd o73.rd o74.rd o75.rd o76.rd (show RdB _ _ [] from Rd.nil _ _) (show RdB _ _ [] from Rd.nil _ _) (show RdB _ _ [] from Rd.nil _ _) (show RdB _ _ [] from Rd.nil _ _) (show RdB _ _ [] from Rd.nil _ _) (show RdB _ _ [] from Rd.nil _ _) (show RdB _ _ [] from Rd.nil _ _) (show RdB _ _ [] from Rd.nil _ _) (Nat.le_trans gm.1 (by decide)) (Nat.le_trans gm.2.1 (by decide)) (Nat.le_trans gm.2.2.1 (by decide)) (Nat.le_trans gm.2.2.2.1 (by decide)) (Nat.le_trans gm.2.2.2.2.1 (by decide)) (Nat.le_trans gm.2.2.2.2.2.1 (by decide)) (Nat.le_trans gm.2.2.2.2.2.2 (by decide)) (Nat.zero_le _) (Nat.zero_le _) (Nat.zero_le _) (Nat.zero_le _) (Nat.zero_le _) (Nat.zero_le _) (Nat.zero_le _) (Nat.zero_le _))) rfl ?_
  rintro _ w9 ⟨u1, rfl, o2, k7⟩
  have gl_o2 := hB.size
  have sb_b1_o2 := fun x hx => (show x ≠ b1 from by have h1 := (o2.blk x hx).1; have h2 := hb1.lt; omega)
  have sb_b2_o2 := fun x hx => (show x ≠ b2 from by have h1 := (o2.blk x hx).1; have h2 := hb4.lt; omega)
  replace hb1 := hb1.keep0 k7
  replace o1 := o1.keep0 k7
  replace o70 := o70.keep0 k7
  replace o71 := o71.keep0 k7
  replace o72 := o72.keep0 k7
  replace o73 := o73.keep0 k7
  replace o74 := o74.keep0 k7
  replace o75 := o75.keep0 k7
  replace o76 := o76.keep0 k7
  replace hb4 := hb4.keep0 k7
  replace hB := hB.trans k7
  have u_o2 := o2.blk
  refine ow_g (g_mv rfl) rfl (ow_g (g_ext (vs := [_, _]) rfl rfl) rfl ?_)
  refine ow_g (g_ext (vs := [_, _]) rfl rfl) rfl ?_
  refine ow_g (g_as rfl) rfl (ow_g (g_as rfl) rfl (ow_nil (tw_seq (tw_region (ow_g (g_mv rfl) rfl (ow_g (g_ne rfl rfl) rfl ?_))))))
  refine ow_g (g_mv rfl) rfl (ow_grp 56 false rfl (fun c1 hgc1 => ?_))
  refine ow_gg [(6, _)] (grd1 rfl rfl rfl hgc1) ⟨und0 rfl, trivial⟩ (fun hw1 => g_mv rfl) rfl ?_
  refine ow_gg [(0, _)] (grd1 rfl rfl rfl hgc1) ⟨und0 rfl, trivial⟩ (fun hw2 => g_mv rfl) rfl ?_
  refine ow_gds [(57, _), (58, _)] (grd1 rfl rfl rfl hgc1) ⟨und1 rfl, und1 rfl, trivial⟩ (fun hw3 => d_call (vs := [_, _]) rfl (nbeq_any _ _ (bif prOk ⟨(kyA c).1, gpR (kyV c).1, lf0, 0, [], [], []⟩ then prB ⟨(kyA c).1, gpR (kyV c).1, lf0, 0, [], [], []⟩ else []) c _ o2.rd (hv.keep0 hB))) rfl ?_
  refine ow_gg [(59, _)] (grd1 rfl rfl rfl hgc1) ⟨und1 rfl, trivial⟩ (fun hw4 => g_notd rfl) rfl ?_
  refine ow_g (g_por rfl rfl hgc1) rfl ?_
  refine ow_nil (tw_keep [(2, _), (5, _), (61, _)] ⟨rfl, rfl, rfl, trivial⟩ ?_)
  refine tw_cond rfl (fun hc2 => ?_) (fun hc2 => ?_)
  ·
   have hd1 := hc2
   try (simp only [Bool.and_eq_true, Bool.or_eq_true, decide_eq_true_eq, Bool.and_eq_false_iff, Bool.or_eq_false_iff, decide_eq_false_iff_not, Bool.not_eq_true', Bool.not_eq_false', Bool.not_eq_true, Bool.not_eq_false, ne_eq, Decidable.not_not, decide_true, decide_false, Bool.true_and, Bool.false_and, Bool.or_false, Bool.false_or, not_true_eq_false, false_or, or_false, true_and, and_true, not_false_eq_true, reduceCtorEq] at hd1)
   refine tw_seq (tw_region (ow_g (g_bld (idx := []) (xs := []) (vs := []) (css := []) (out := [_, _, _, _, _, _, _, _, _, _, _, _, _, _, _, _, _, _, _]) pl34 ty34 rfl rfl trivial rfl rfl) rfl ?_))
   refine ow_d0 (d_sta ty34 rfl rfl rfl (by simp only [List.forall_mem_cons]; refine ⟨rfl, rfl, rfl, rfl, rfl, rfl, rfl, rfl, rfl, rfl, rfl, rfl, rfl, rfl, rfl, rfl, rfl, rfl, rfl, fun v hv => by cases hv⟩) hb1 rfl) ?_
   rintro _ w10 ⟨hb5, k8, z5⟩
   replace o1 := o1.keep k8 (fun x hx hm => sb_b1_o1 x hx (List.mem_singleton.1 hm))
   replace o70 := o70.keep k8 (fun x hx hm => (fun x hx => (show x ≠ b1 from by have := (o70.blk x hx).1; omega)) x hx (List.mem_singleton.1 hm))
   replace o71 := o71.keep k8 (fun x hx hm => (fun x hx => (show x ≠ b1 from by have := (o71.blk x hx).1; omega)) x hx (List.mem_singleton.1 hm))
   replace o72 := o72.keep k8 (fun x hx hm => (fun x hx => (show x ≠ b1 from by have := (o72.blk x hx).1; omega)) x hx (List.mem_singleton.1 hm))
   replace o73 := o73.keep k8 (fun x hx hm => (fun x hx => (show x ≠ b1 from by have := (o73.blk x hx).1; omega)) x hx (List.mem_singleton.1 hm))
   replace o74 := o74.keep k8 (fun x hx hm => (fun x hx => (show x ≠ b1 from by have := (o74.blk x hx).1; omega)) x hx (List.mem_singleton.1 hm))
   replace o75 := o75.keep k8 (fun x hx hm => (fun x hx => (show x ≠ b1 from by have := (o75.blk x hx).1; omega)) x hx (List.mem_singleton.1 hm))
   replace o76 := o76.keep k8 (fun x hx hm => (fun x hx => (show x ≠ b1 from by have := (o76.blk x hx).1; omega)) x hx (List.mem_singleton.1 hm))
   replace hb4 := hb4.keep k8 (fun hm => absurd (List.mem_singleton.1 hm) (Ne.symm ne_b1_b2))
   replace o2 := o2.keep k8 (fun x hx hm => sb_b1_o2 x hx (List.mem_singleton.1 hm))
   replace hB := hB.new k8 (fun x hx => .inl ((List.mem_singleton.1 hx) ▸ ge_b1))
   clear z5
   replace hb5 : Bk w10 b1 _ [.int .i64 0, .slice none 0 0, .slice none 0 0, .slice none 0 0, .slice none 0 0, .int .i64 0, .slice none 0 0, .slice none 0 0, .slice none 0 0, .slice none 0 0, .slice none 0 0, .slice none 0 0, .int .i64 0, .slice none 0 0, .slice none 0 0, .int .i64 0, .slice none 0 0, .slice none 0 0, .slice none 0 0] := hb5
   refine ow_g (g_as rfl) rfl (ow_nil (tw_retct hfin Try.results9 rfl (run_loadAgg ag34 ty34 hb5 rfl) rfl ?_))
   have hk : (kyA c).1 = 1 := by assumption
   obtain ⟨e1, e2, e3⟩ := ky_1 hk
   have eX : kpP c = ⟨(kyA c).1, gpR (kyV c).1, lf0, 0, [], [], []⟩ := by
    unfold kpP; simp only; rw [if_pos (by omega)]; rw [hk]; exact e1
   obtain ⟨hd1, hd2⟩ := ky_doc c
   have hok : kpOk c = false := by
    have hh := kp_b (prOk ⟨(kyA c).1, gpR (kyV c).1, lf0, 0, [], [], []⟩) (prB ⟨(kyA c).1, gpR (kyV c).1, lf0, 0, [], [], []⟩) c
    rw [show (decide ((bif prOk ⟨(kyA c).1, gpR (kyV c).1, lf0, 0, [], [], []⟩ then (0 : Int) else 1) ≠ 0) || decide (¬ (bif prOk ⟨(kyA c).1, gpR (kyV c).1, lf0, 0, [], [], []⟩ then prB ⟨(kyA c).1, gpR (kyV c).1, lf0, 0, [], [], []⟩ else []) = c)) = true from by assumption] at hh
    unfold kpOk; rw [eX]; cases hq : (prOk ⟨(kyA c).1, gpR (kyV c).1, lf0, 0, [], [], []⟩ && decide (prB ⟨(kyA c).1, gpR (kyV c).1, lf0, 0, [], [], []⟩ = c)) <;> rw [hq] at hh <;> first | rfl | (cases hh; done)
   unfold kgR kgE; rw [hd1, hok]
   exact ⟨_, _, _, _, _, _, _, _, _, _, _, _, _, _, _, rfl, own_nil _ _ _ _, own_nil _ _ _ _, own_nil _ _ _ _, own_nil _ _ _ _, own_nil _ _ _ _, own_nil _ _ _ _, own_nil _ _ _ _, own_nil _ _ _ _, own_nil _ _ _ _, own_nil _ _ _ _, own_nil _ _ _ _, own_nil _ _ _ _, own_nil _ _ _ _, own_nil _ _ _ _, own_nil _ _ _ _, hB⟩
  ·
   have hd2 := hc2
   try (simp only [Bool.and_eq_true, Bool.or_eq_true, decide_eq_true_eq, Bool.and_eq_false_iff, Bool.or_eq_false_iff, decide_eq_false_iff_not, Bool.not_eq_true', Bool.not_eq_false', Bool.not_eq_true, Bool.not_eq_false, ne_eq, Decidable.not_not, decide_true, decide_false, Bool.true_and, Bool.false_and, Bool.or_false, Bool.false_or, not_true_eq_false, false_or, or_false, true_and, and_true, not_false_eq_true, reduceCtorEq] at hd2)
   refine tw_skip (tw_seq (tw_region (ow_g (g_ldab (cs' := [_, _, _, _, _, _, _, _, _, _, _, _, _, _, _, _, _, _, _]) ag34 ty34 rfl hb4 rfl rfl) rfl ?_)))
   refine ow_d0 (d_sta ty34 rfl rfl rfl (by simp only [List.forall_mem_cons]; exact ⟨rfl, (Own.rd o70).one, (Own.rd o71).one, (Own.rd o72).one, (Own.rd o73).one, rfl, (Own.rd o74).one, (Own.rd o75).one, (Own.rd o76).one, rfl, rfl, rfl, rfl, rfl, rfl, rfl, rfl, rfl, rfl, fun v hv => by cases hv⟩) hb1 rfl) ?_
   rintro _ w11 ⟨hb6, k9, z6⟩
   replace o1 := o1.keep k9 (fun x hx hm => sb_b1_o1 x hx (List.mem_singleton.1 hm))
   replace o70 := o70.keep k9 (fun x hx hm => (fun x hx => (show x ≠ b1 from by have := (o70.blk x hx).1; omega)) x hx (List.mem_singleton.1 hm))
   replace o71 := o71.keep k9 (fun x hx hm => (fun x hx => (show x ≠ b1 from by have := (o71.blk x hx).1; omega)) x hx (List.mem_singleton.1 hm))
   replace o72 := o72.keep k9 (fun x hx hm => (fun x hx => (show x ≠ b1 from by have := (o72.blk x hx).1; omega)) x hx (List.mem_singleton.1 hm))
   replace o73 := o73.keep k9 (fun x hx hm => (fun x hx => (show x ≠ b1 from by have := (o73.blk x hx).1; omega)) x hx (List.mem_singleton.1 hm))
   replace o74 := o74.keep k9 (fun x hx hm => (fun x hx => (show x ≠ b1 from by have := (o74.blk x hx).1; omega)) x hx (List.mem_singleton.1 hm))
   replace o75 := o75.keep k9 (fun x hx hm => (fun x hx => (show x ≠ b1 from by have := (o75.blk x hx).1; omega)) x hx (List.mem_singleton.1 hm))
   replace o76 := o76.keep k9 (fun x hx hm => (fun x hx => (show x ≠ b1 from by have := (o76.blk x hx).1; omega)) x hx (List.mem_singleton.1 hm))
   replace hb4 := hb4.keep k9 (fun hm => absurd (List.mem_singleton.1 hm) (Ne.symm ne_b1_b2))
   replace o2 := o2.keep k9 (fun x hx hm => sb_b1_o2 x hx (List.mem_singleton.1 hm))
   replace hB := hB.new k9 (fun x hx => .inl ((List.mem_singleton.1 hx) ▸ ge_b1))
   clear z6
   replace hb6 : Bk w11 b1 _ [.int .i64 (kyA c).1, q0, q1, q2, q3, .int .i64 (gpR (kyV c).1).leaf.src, q4, q5, q6, .slice none 0 0, .slice none 0 0, .slice none 0 0, .int .i64 0, .slice none 0 0, .slice none 0 0, .int .i64 0, .slice none 0 0, .slice none 0 0, .slice none 0 0] := hb6
   refine ow_g (g_as rfl) rfl (ow_nil (tw_retct hfin Try.results9 rfl (run_loadAgg ag34 ty34 hb6 rfl) rfl ?_))
   have hk : (kyA c).1 = 1 := by assumption
   obtain ⟨e1, e2, e3⟩ := ky_1 hk
   have eX : kpP c = ⟨(kyA c).1, gpR (kyV c).1, lf0, 0, [], [], []⟩ := by
    unfold kpP; simp only; rw [if_pos (by omega)]; rw [hk]; exact e1
   obtain ⟨hd1, hd2⟩ := ky_doc c
   have hok : kpOk c = true := by
    have hh := kp_b (prOk ⟨(kyA c).1, gpR (kyV c).1, lf0, 0, [], [], []⟩) (prB ⟨(kyA c).1, gpR (kyV c).1, lf0, 0, [], [], []⟩) c
    rw [show (decide ((bif prOk ⟨(kyA c).1, gpR (kyV c).1, lf0, 0, [], [], []⟩ then (0 : Int) else 1) ≠ 0) || decide (¬ (bif prOk ⟨(kyA c).1, gpR (kyV c).1, lf0, 0, [], [], []⟩ then prB ⟨(kyA c).1, gpR (kyV c).1, lf0, 0, [], [], []⟩ else []) = c)) = false from by assumption] at hh
    unfold kpOk; rw [eX]; cases hq : (prOk ⟨(kyA c).1, gpR (kyV c).1, lf0, 0, [], [], []⟩ && decide (prB ⟨(kyA c).1, gpR (kyV c).1, lf0, 0, [], [], []⟩ = c)) <;> rw [hq] at hh <;> first | rfl | (cases hh; done)
   rw [show kgR c = ⟨(kyA c).1, gpR (kyV c).1, lf0, 0, [], [], []⟩ from by unfold kgR; rw [hd1, hok, cond_true, ← hd2 hok]; exact eX, show kgE c = 0 from by unfold kgE; rw [hd1, hok]; rfl]
   exact ⟨_, _, _, _, _, _, _, _, _, _, _, _, _, _, _, rfl, o70.lo gwQ, o71.lo gwQ, o72.lo gwQ, o73.lo gwQ, o74.lo gwQ, o75.lo gwQ, o76.lo gwQ, own_nil _ _ _ _, own_nil _ _ _ _, own_nil _ _ _ _, own_nil _ _ _ _, own_nil _ _ _ _, own_nil _ _ _ _, own_nil _ _ _ _, own_nil _ _ _ _, hB⟩
 ·
  refine tw_seq (tw_region (ow_g (g_eq rfl rfl) rfl ?_))
  refine ow_g (g_as rfl) rfl (ow_nil (tw_keep [(0, _), (2, _), (4, _), (5, _), (14, _), (27, _)] ⟨rfl, rfl, rfl, rfl, rfl, rfl, trivial⟩ ?_))
  refine tw_if rfl (fun hc3 => ?_) (fun hc3 => ?_)
  ·
   refine tw_region (ow_g (g_mv rfl) rfl ?_)
   have lv_km3 := rr.lt
   have gw_o3 := hB.size
   have lb_o3_b1 := hb1.lt
   have lb_o3_b2 := hb3.lt
   refine ow_d (d_call (vs := [_]) rfl (vector_any p1 (kyA c).2.1 (kyA c).2.2 _ rr (by omega))) rfl ?_
   rintro v2 w12 ⟨_, rfl, o3, rr, km3⟩
   have gl_o3 := hB.size
   have sb_b1_o3 := fun x hx => (show x ≠ b1 from by have h1 := (o3.blk x hx).1; have h2 := hb1.lt; omega)
   have sb_b2_o3 := fun x hx => (show x ≠ b2 from by have h1 := (o3.blk x hx).1; have h2 := hb3.lt; omega)
   have z_km3 := km3.size
   replace hb1 := hb1.keep km3 (fun hm => by have h9 := List.mem_singleton.1 hm; omega)
   replace hb3 := hb3.keep km3 (fun hm => by have h9 := List.mem_singleton.1 hm; omega)
   replace hB := hB.new km3 (fun x hm => .inl (by have h9 := List.mem_singleton.1 hm; omega))
   have rr : Rdr w12 p1 (kyV c).2.1 (kyV c).2.2 := rr
   replace o3 : OwnB w12 w5.heap.size v2 (kyV c).1 := o3
   have u_o3 := o3.blk
   have lc_b1 := hb1.lt
   have lc_b2 := hb3.lt
   have gwQ := hB.size
   have lcr := rr.lt
   refine ow_d (d_call (vs := [_]) rfl (getLeaf_any _ (kyV c).1 _ o3.rd hlV)) rfl ?_
   rintro _ w13 ⟨r0, r1, r2, r3, r4, rfl, o70, o71, o72, o73, o74, k10⟩
   replace hb1 := hb1.keep0 k10
   replace rr := rr.keep0 k10
   replace hb3 := hb3.keep0 k10
   replace o3 := o3.keep0 k10
   replace hB := hB.trans k10
   have u_o70 := o70.blk
   have u_o71 := o71.blk
   have u_o72 := o72.blk
   have u_o73 := o73.blk
   have u_o74 := o74.blk
   refine ow_g (g_mv rfl) rfl (ow_g (g_ext (vs := [_, _]) rfl rfl) rfl ?_)
   refine ow_g (g_ext (vs := [_, _]) rfl rfl) rfl ?_
   refine ow_g (g_fa Try.underlying34 rfl ty30 (by decide) rfl) rfl ?_
   refine ow_d0 (d_sta ty30 rfl rfl rfl (by simp only [List.forall_mem_cons]; exact ⟨(Own.rd o70).one, (Own.rd o71).one, (Own.rd o72).one, rfl, (Own.rd o73).one, (Own.rd o74).one, fun v hv => by cases hv⟩) hb3 rfl) ?_
   rintro _ w14 ⟨hb7, k11, z7⟩
   replace hb1 := hb1.keep k11 (fun hm => absurd (List.mem_singleton.1 hm) ne_b1_b2)
   replace rr := rr.keep k11 (fun x hx hm => (fun x (hx : x ≤ p1) => (show x ≠ b2 from by omega)) x hx (List.mem_singleton.1 hm))
   replace o3 := o3.keep k11 (fun x hx hm => sb_b2_o3 x hx (List.mem_singleton.1 hm))
   replace o70 := o70.keep k11 (fun x hx hm => (fun x hx => (show x ≠ b2 from by have := (o70.blk x hx).1; omega)) x hx (List.mem_singleton.1 hm))
   replace o71 := o71.keep k11 (fun x hx hm => (fun x hx => (show x ≠ b2 from by have := (o71.blk x hx).1; omega)) x hx (List.mem_singleton.1 hm))
   replace o72 := o72.keep k11 (fun x hx hm => (fun x hx => (show x ≠ b2 from by have := (o72.blk x hx).1; omega)) x hx (List.mem_singleton.1 hm))
   replace o73 := o73.keep k11 (fun x hx hm => (fun x hx => (show x ≠ b2 from by have := (o73.blk x hx).1; omega)) x hx (List.mem_singleton.1 hm))
   replace o74 := o74.keep k11 (fun x hx hm => (fun x hx => (show x ≠ b2 from by have := (o74.blk x hx).1; omega)) x hx (List.mem_singleton.1 hm))
   replace hB := hB.new k11 (fun x hx => .inl ((List.mem_singleton.1 hx) ▸ ge_b2))
   clear z7
   replace hb7 : Bk w14 b2 _ [.int .i64 (kyA c).1, .slice none 0 0, .slice none 0 0, .slice none 0 0, .slice none 0 0, .int .i64 0, .slice none 0 0, .slice none 0 0, .slice none 0 0, r0, r1, r2, .int .i64 (glR (kyV c).1).src, r3, r4, .int .i64 0, .slice none 0 0, .slice none 0 0, .slice none 0 0] := hb7
   refine ow_nil (tw_keep [(0, _), (2, _), (5, _)] ⟨rfl, rfl, rfl, trivial⟩ ?_)
   refine tw_b (tw_seq (tw_seq (tw_region (ow_g (g_ldab (cs' := [_, _, _, _, _, _, _, _, _, _, _, _, _, _, _, _, _, _, _]) ag34 ty34 rfl hb7 rfl rfl) rfl ?_))))
   refine ow_d (d_call (vs := [_]) rfl (kput_any _ _ _ _ _ _ _ _ _ _ _ _ _ _ _ ⟨(kyA c).1, pk0, glR (kyV c).1, 0, [], [], []⟩ _ (show RdB _ _ [] from Rd.nil _ _) (show RdB _ _ [] from Rd.nil _ _) (show RdB _ _ [] from Rd.nil _ _) (show RdB _ _ [] from Rd.nil _ _) (show RdB _ _ [] from Rd.nil _ _) (show RdB _ _ [] from Rd.nil _ _) (show RdB _ _ [] from Rd.nil _ _) o70.rd o71.rd o72.rd o73.rd o74.rd (show RdB _ _ [] from Rd.nil _ _) (show RdB _ _ [] from Rd.nil _ _) (show RdB _ _ [] from Rd.nil _ _) (Nat.zero_le _) (Nat.zero_le _) (Nat.zero_le _) (Nat.zero_le _) (Nat.zero_le _) (Nat.zero_le _) (Nat.zero_le _) (Nat.le_trans lm.1 (by decide)) (Nat.le_trans lm.2.1 (by decide)) (Nat.le_trans lm.2.2.1 (by decide)) (Nat.le_trans lm.2.2.2.1 (by decide)) (Nat.le_trans lm.2.2.2.2 (by decide)) (Nat.zero_le _) (Nat.zero_le _) (Nat.zero_le _))) rfl ?_
   rintro _ w15 ⟨u2, rfl, o4, k12⟩
   have gl_o4 := hB.size
   have sb_b1_o4 := fun x hx => (show x ≠ b1 from by have h1 := (o4.blk x hx).1; have h2 := hb1.lt; omega)
   have sb_b2_o4 := fun x hx => (show x ≠ b2 from by have h1 := (o4.blk x hx).1; have h2 := hb7.lt; omega)
   replace hb1 := hb1.keep0 k12
   replace o3 := o3.keep0 k12
   replace o70 := o70.keep0 k12
   replace o71 := o71.keep0 k12
   replace o72 := o72.keep0 k12
   replace o73 := o73.keep0 k12
   replace o74 := o74.keep0 k12
   replace hb7 := hb7.keep0 k12
   replace hB := hB.trans k12
   have u_o4 := o4.blk
   refine ow_g (g_mv rfl) rfl (ow_g (g_ext (vs := [_, _]) rfl rfl) rfl ?_)
   refine ow_g (g_ext (vs := [_, _]) rfl rfl) rfl ?_
   refine ow_g (g_as rfl) rfl (ow_g (g_as rfl) rfl (ow_nil (tw_seq (tw_region (ow_g (g_mv rfl) rfl (ow_g (g_ne rfl rfl) rfl ?_))))))
   refine ow_g (g_mv rfl) rfl (ow_grp 56 false rfl (fun c2 hgc2 => ?_))
   refine ow_gg [(6, _)] (grd1 rfl rfl rfl hgc2) ⟨und0 rfl, trivial⟩ (fun hw5 => g_mv rfl) rfl ?_
   refine ow_gg [(0, _)] (grd1 rfl rfl rfl hgc2) ⟨und0 rfl, trivial⟩ (fun hw6 => g_mv rfl) rfl ?_
   refine ow_gds [(57, _), (58, _)] (grd1 rfl rfl rfl hgc2) ⟨und1 rfl, und1 rfl, trivial⟩ (fun hw7 => d_call (vs := [_, _]) rfl (nbeq_any _ _ (bif prOk ⟨(kyA c).1, pk0, glR (kyV c).1, 0, [], [], []⟩ then prB ⟨(kyA c).1, pk0, glR (kyV c).1, 0, [], [], []⟩ else []) c _ o4.rd (hv.keep0 hB))) rfl ?_
   refine ow_gg [(59, _)] (grd1 rfl rfl rfl hgc2) ⟨und1 rfl, trivial⟩ (fun hw8 => g_notd rfl) rfl ?_
   refine ow_g (g_por rfl rfl hgc2) rfl ?_
   refine ow_nil (tw_keep [(2, _), (5, _), (61, _)] ⟨rfl, rfl, rfl, trivial⟩ ?_)
   refine tw_cond rfl (fun hc4 => ?_) (fun hc4 => ?_)
   ·
    have hd3 := hc4
    try (simp only [Bool.and_eq_true, Bool.or_eq_true, decide_eq_true_eq, Bool.and_eq_false_iff, Bool.or_eq_false_iff, decide_eq_false_iff_not, Bool.not_eq_true', Bool.not_eq_false', Bool.not_eq_true, Bool.not_eq_false, ne_eq, Decidable.not_not, decide_true, decide_false, Bool.true_and, Bool.false_and, Bool.or_false, Bool.false_or, not_true_eq_false, false_or, or_false, true_and, and_true, not_false_eq_true, reduceCtorEq] at hd3)
    refine tw_seq (tw_region (ow_g (g_bld (idx := []) (xs := []) (vs := []) (css := []) (out := [_, _, _, _, _, _, _, _, _, _, _, _, _, _, _, _, _, _, _]) pl34 ty34 rfl rfl trivial rfl rfl) rfl ?_))
    refine ow_d0 (d_sta ty34 rfl rfl rfl (by simp only [List.forall_mem_cons]; refine ⟨rfl, rfl, rfl, rfl, rfl, rfl, rfl, rfl, rfl, rfl, rfl, rfl, rfl, rfl, rfl, rfl, rfl, rfl, rfl, fun v hv => by cases hv⟩) hb1 rfl) ?_
    rintro _ w16 ⟨hb8, k13, z8⟩
    replace o3 := o3.keep k13 (fun x hx hm => sb_b1_o3 x hx (List.mem_singleton.1 hm))
    replace o70 := o70.keep k13 (fun x hx hm => (fun x hx => (show x ≠ b1 from by have := (o70.blk x hx).1; omega)) x hx (List.mem_singleton.1 hm))
    replace o71 := o71.keep k13 (fun x hx hm => (fun x hx => (show x ≠ b1 from by have := (o71.blk x hx).1; omega)) x hx (List.mem_singleton.1 hm))
    replace o72 := o72.keep k13 (fun x hx hm => (fun x hx => (show x ≠ b1 from by have := (o72.blk x hx).1; omega)) x hx (List.mem_singleton.1 hm))
    replace o73 := o73.keep k13 (fun x hx hm => (fun x hx => (show x ≠ b1 from by have := (o73.blk x hx).1; omega)) x hx (List.mem_singleton.1 hm))
    replace o74 := o74.keep k13 (fun x hx hm => (fun x hx => (show x ≠ b1 from by have := (o74.blk x hx).1; omega)) x hx (List.mem_singleton.1 hm))
    replace hb7 := hb7.keep k13 (fun hm => absurd (List.mem_singleton.1 hm) (Ne.symm ne_b1_b2))
    replace o4 := o4.keep k13 (fun x hx hm => sb_b1_o4 x hx (List.mem_singleton.1 hm))
    replace hB := hB.new k13 (fun x hx => .inl ((List.mem_singleton.1 hx) ▸ ge_b1))
    clear z8
    replace hb8 : Bk w16 b1 _ [.int .i64 0, .slice none 0 0, .slice none 0 0, .slice none 0 0, .slice none 0 0, .int .i64 0, .slice none 0 0, .slice none 0 0, .slice none 0 0, .slice none 0 0, .slice none 0 0, .slice none 0 0, .int .i64 0, .slice none 0 0, .slice none 0 0, .int .i64 0, .slice none 0 0, .slice none 0 0, .slice none 0 0] := hb8
    refine ow_g (g_as rfl) rfl (ow_nil (tw_retct hfin Try.results9 rfl (run_loadAgg ag34 ty34 hb8 rfl) rfl ?_))
    have hk : (kyA c).1 = 2 := by assumption
    obtain ⟨e1, e2, e3⟩ := ky_2 hk
    have eX : kpP c = ⟨(kyA c).1, pk0, glR (kyV c).1, 0, [], [], []⟩ := by
     unfold kpP; simp only; rw [if_pos (by omega)]; rw [hk]; exact e1
    obtain ⟨hd1, hd2⟩ := ky_doc c
    have hok : kpOk c = false := by
     have hh := kp_b (prOk ⟨(kyA c).1, pk0, glR (kyV c).1, 0, [], [], []⟩) (prB ⟨(kyA c).1, pk0, glR (kyV c).1, 0, [], [], []⟩) c
     rw [show (decide ((bif prOk ⟨(kyA c).1, pk0, glR (kyV c).1, 0, [], [], []⟩ then (0 : Int) else 1) ≠ 0) || decide (¬ (bif prOk ⟨(kyA c).1, pk0, glR (kyV c).1, 0, [], [], []⟩ then prB ⟨(kyA c).1, pk0, glR (kyV c).1, 0, [], [], []⟩ else []) = c)) = true from by assumption] at hh
     unfold kpOk; rw [eX]; cases hq : (prOk ⟨(kyA c).1, pk0, glR (kyV c).1, 0, [], [], []⟩ && decide (prB ⟨(kyA c).1, pk0, glR (kyV c).1, 0, [], [], []⟩ = c)) <;> rw [hq] at hh <;> first | rfl | (cases hh; done)
    unfold kgR kgE; rw [hd1, hok]
    exact ⟨_, _, _, _, _, _, _, _, _, _, _, _, _, _, _, rfl, own_nil _ _ _ _, own_nil _ _ _ _, own_nil _ _ _ _, own_nil _ _ _ _, own_nil _ _ _ _, own_nil _ _ _ _, own_nil _ _ _ _, own_nil _ _ _ _, own_nil _ _ _ _, own_nil _ _ _ _, own_nil _ _ _ _, own_nil _ _ _ _, own_nil _ _ _ _, own_nil _ _ _ _, own_nil _ _ _ _, hB⟩
   ·
    have hd4 := hc4
    try (simp only [Bool.and_eq_true, Bool.or_eq_true, decide_eq_true_eq, Bool.and_eq_false_iff, Bool.or_eq_false_iff, decide_eq_false_iff_not, Bool.not_eq_true', Bool.not_eq_false', Bool.not_eq_true, Bool.not_eq_false, ne_eq, Decidable.not_not, decide_true, decide_false, Bool.true_and, Bool.false_and, Bool.or_false, Bool.false_or, not_true_eq_false, false_or, or_false, true_and, and_true, not_false_eq_true, reduceCtorEq] at hd4)
    refine tw_skip (tw_seq (tw_region (ow_g (g_ldab (cs' := [_, _, _, _, _, _, _, _, _, _, _, _, _, _, _, _, _, _, _]) ag34 ty34 rfl hb7 rfl rfl) rfl ?_)))
    refine ow_d0 (d_sta ty34 rfl rfl rfl (by simp only [List.forall_mem_cons]; exact ⟨rfl, rfl, rfl, rfl, rfl, rfl, rfl, rfl, rfl, (Own.rd o70).one, (Own.rd o71).one, (Own.rd o72).one, rfl, (Own.rd o73).one, (Own.rd o74).one, rfl, rfl, rfl, rfl, fun v hv => by cases hv⟩) hb1 rfl) ?_
    rintro _ w17 ⟨hb9, k14, z9⟩
    replace o3 := o3.keep k14 (fun x hx hm => sb_b1_o3 x hx (List.mem_singleton.1 hm))
    replace o70 := o70.keep k14 (fun x hx hm => (fun x hx => (show x ≠ b1 from by have := (o70.blk x hx).1; omega)) x hx (List.mem_singleton.1 hm))
    replace o71 := o71.keep k14 (fun x hx hm => (fun x hx => (show x ≠ b1 from by have := (o71.blk x hx).1; omega)) x hx (List.mem_singleton.1 hm))
    replace o72 := o72.keep k14 (fun x hx hm => (fun x hx => (show x ≠ b1 from by have := (o72.blk x hx).1; omega)) x hx (List.mem_singleton.1 hm))
    replace o73 := o73.keep k14 (fun x hx hm => (fun x hx => (show x ≠ b1 from by have := (o73.blk x hx).1; omega)) x hx (List.mem_singleton.1 hm))
    replace o74 := o74.keep k14 (fun x hx hm => (fun x hx => (show x ≠ b1 from by have := (o74.blk x hx).1; omega)) x hx (List.mem_singleton.1 hm))
    replace hb7 := hb7.keep k14 (fun hm => absurd (List.mem_singleton.1 hm) (Ne.symm ne_b1_b2))
    replace o4 := o4.keep k14 (fun x hx hm => sb_b1_o4 x hx (List.mem_singleton.1 hm))
    replace hB := hB.new k14 (fun x hx => .inl ((List.mem_singleton.1 hx) ▸ ge_b1))
    clear z9
    replace hb9 : Bk w17 b1 _ [.int .i64 (kyA c).1, .slice none 0 0, .slice none 0 0, .slice none 0 0, .slice none 0 0, .int .i64 0, .slice none 0 0, .slice none 0 0, .slice none 0 0, r0, r1, r2, .int .i64 (glR (kyV c).1).src, r3, r4, .int .i64 0, .slice none 0 0, .slice none 0 0, .slice none 0 0] := hb9
    refine ow_g (g_as rfl) rfl (ow_nil (tw_retct hfin Try.results9 rfl (run_loadAgg ag34 ty34 hb9 rfl) rfl ?_))
    have hk : (kyA c).1 = 2 := by assumption
    obtain ⟨e1, e2, e3⟩ := ky_2 hk
    have eX : kpP c = ⟨(kyA c).1, pk0, glR (kyV c).1, 0, [], [], []⟩ := by
     unfold kpP; simp only; rw [if_pos (by omega)]; rw [hk]; exact e1
    obtain ⟨hd1, hd2⟩ := ky_doc c
    have hok : kpOk c = true := by
     have hh := kp_b (prOk ⟨(kyA c).1, pk0, glR (kyV c).1, 0, [], [], []⟩) (prB ⟨(kyA c).1, pk0, glR (kyV c).1, 0, [], [], []⟩) c
     rw [show (decide ((bif prOk ⟨(kyA c).1, pk0, glR (kyV c).1, 0, [], [], []⟩ then (0 : Int) else 1) ≠ 0) || decide (¬ (bif prOk ⟨(kyA c).1, pk0, glR (kyV c).1, 0, [], [], []⟩ then prB ⟨(kyA c).1, pk0, glR (kyV c).1, 0, [], [], []⟩ else []) = c)) = false from by assumption] at hh
     unfold kpOk; rw [eX]; cases hq : (prOk ⟨(kyA c).1, pk0, glR (kyV c).1, 0, [], [], []⟩ && decide (prB ⟨(kyA c).1, pk0, glR (kyV c).1, 0, [], [], []⟩ = c)) <;> rw [hq] at hh <;> first | rfl | (cases hh; done)
    rw [show kgR c = ⟨(kyA c).1, pk0, glR (kyV c).1, 0, [], [], []⟩ from by unfold kgR; rw [hd1, hok, cond_true, ← hd2 hok]; exact eX, show kgE c = 0 from by unfold kgE; rw [hd1, hok]; rfl]
    exact ⟨_, _, _, _, _, _, _, _, _, _, _, _, _, _, _, rfl, own_nil _ _ _ _, own_nil _ _ _ _, own_nil _ _ _ _, own_nil _ _ _ _, own_nil _ _ _ _, own_nil _ _ _ _, own_nil _ _ _ _, o70.lo gwQ, o71.lo gwQ, o72.lo gwQ, o73.lo gwQ, o74.lo gwQ, own_nil _ _ _ _, own_nil _ _ _ _, own_nil _ _ _ _, hB⟩
  ·
   refine tw_seq (tw_region (ow_g (g_eq rfl rfl) rfl ?_))
   refine ow_g (g_as rfl) rfl (ow_nil (tw_if rfl (fun hc5 => ?_) (fun hc5 => ?_)))
   ·
    refine tw_region (ow_g (g_mv rfl) rfl ?_)
    have lv_km4 := rr.lt
    refine ow_d (d_call (vs := [_, _]) rfl (knum4_any p1 (kyA c).2.1 (kyA c).2.2 _ rr)) rfl ?_
    rintro _ w18 ⟨rfl, rr, km4⟩
    have z_km4 := km4.size
    replace hb1 := hb1.keep km4 (fun hm => by have h9 := List.mem_singleton.1 hm; omega)
    replace hb3 := hb3.keep km4 (fun hm => by have h9 := List.mem_singleton.1 hm; omega)
    replace hB := hB.new km4 (fun x hm => .inl (by have h9 := List.mem_singleton.1 hm; omega))
    have rr : Rdr w18 p1 (kyN c).2.1 (kyN c).2.2 := rr
    show OW _ _ _ _ _ _ ((39, .int .i64 (kyN c).1) :: _) _
    refine ow_g (g_fa Try.underlying34 rfl ty3 (by decide) rfl) rfl ?_
    refine ow_d0 (d_st ty3 rfl rfl rfl hb3 rfl) ?_
    rintro _ w19 ⟨hb10, k15, z10⟩
    replace hb1 := hb1.keep k15 (fun hm => absurd (List.mem_singleton.1 hm) ne_b1_b2)
    replace rr := rr.keep k15 (fun x hx hm => (fun x (hx : x ≤ p1) => (show x ≠ b2 from by omega)) x hx (List.mem_singleton.1 hm))
    replace hB := hB.new k15 (fun x hx => .inl ((List.mem_singleton.1 hx) ▸ ge_b2))
    clear z10
    replace hb10 : Bk w19 b2 _ [.int .i64 (kyA c).1, .slice none 0 0, .slice none 0 0, .slice none 0 0, .slice none 0 0, .int .i64 0, .slice none 0 0, .slice none 0 0, .slice none 0 0, .slice none 0 0, .slice none 0 0, .slice none 0 0, .int .i64 0, .slice none 0 0, .slice none 0 0, .int .i64 (kyN c).1, .slice none 0 0, .slice none 0 0, .slice none 0 0] := hb10
    refine ow_nil (tw_b (tw_seq (tw_seq (tw_region (ow_g (g_ldab (cs' := [_, _, _, _, _, _, _, _, _, _, _, _, _, _, _, _, _, _, _]) ag34 ty34 rfl hb10 rfl rfl) rfl ?_)))))
    refine ow_d (d_call (vs := [_]) rfl (kput_any _ _ _ _ _ _ _ _ _ _ _ _ _ _ _ ⟨(kyA c).1, pk0, lf0, (kyN c).1, [], [], []⟩ _ (show RdB _ _ [] from Rd.nil _ _) (show RdB _ _ [] from Rd.nil _ _) (show RdB _ _ [] from Rd.nil _ _) (show RdB _ _ [] from Rd.nil _ _) (show RdB _ _ [] from Rd.nil _ _) (show RdB _ _ [] from Rd.nil _ _) (show RdB _ _ [] from Rd.nil _ _) (show RdB _ _ [] from Rd.nil _ _) (show RdB _ _ [] from Rd.nil _ _) (show RdB _ _ [] from Rd.nil _ _) (show RdB _ _ [] from Rd.nil _ _) (show RdB _ _ [] from Rd.nil _ _) (show RdB _ _ [] from Rd.nil _ _) (show RdB _ _ [] from Rd.nil _ _) (show RdB _ _ [] from Rd.nil _ _) (Nat.zero_le _) (Nat.zero_le _) (Nat.zero_le _) (Nat.zero_le _) (Nat.zero_le _) (Nat.zero_le _) (Nat.zero_le _) (Nat.zero_le _) (Nat.zero_le _) (Nat.zero_le _) (Nat.zero_le _) (Nat.zero_le _) (Nat.zero_le _) (Nat.zero_le _) (Nat.zero_le _))) rfl ?_
    rintro _ w20 ⟨u3, rfl, o5, k16⟩
    have gl_o5 := hB.size
    have sb_b1_o5 := fun x hx => (show x ≠ b1 from by have h1 := (o5.blk x hx).1; have h2 := hb1.lt; omega)
    have sb_b2_o5 := fun x hx => (show x ≠ b2 from by have h1 := (o5.blk x hx).1; have h2 := hb10.lt; omega)
    replace hb1 := hb1.keep0 k16
    replace hb10 := hb10.keep0 k16
    replace hB := hB.trans k16
    have u_o5 := o5.blk
    refine ow_g (g_mv rfl) rfl (ow_g (g_ext (vs := [_, _]) rfl rfl) rfl ?_)
    refine ow_g (g_ext (vs := [_, _]) rfl rfl) rfl ?_
    refine ow_g (g_as rfl) rfl (ow_g (g_as rfl) rfl (ow_nil (tw_keep [(0, _), (2, _), (5, _), (6, _), (7, _)] ⟨rfl, rfl, rfl, rfl, rfl, trivial⟩ ?_)))
    refine tw_seq (tw_region (ow_g (g_mv rfl) rfl (ow_g (g_ne rfl rfl) rfl ?_)))
    refine ow_g (g_mv rfl) rfl (ow_grp 56 false rfl (fun c3 hgc3 => ?_))
    refine ow_gg [(6, _)] (grd1 rfl rfl rfl hgc3) ⟨und0 rfl, trivial⟩ (fun hw9 => g_mv rfl) rfl ?_
    refine ow_gg [(0, _)] (grd1 rfl rfl rfl hgc3) ⟨und0 rfl, trivial⟩ (fun hw10 => g_mv rfl) rfl ?_
    refine ow_gds [(57, _), (58, _)] (grd1 rfl rfl rfl hgc3) ⟨und1 rfl, und1 rfl, trivial⟩ (fun hw11 => d_call (vs := [_, _]) rfl (nbeq_any _ _ (bif prOk ⟨(kyA c).1, pk0, lf0, (kyN c).1, [], [], []⟩ then prB ⟨(kyA c).1, pk0, lf0, (kyN c).1, [], [], []⟩ else []) c _ o5.rd (hv.keep0 hB))) rfl ?_
    refine ow_gg [(59, _)] (grd1 rfl rfl rfl hgc3) ⟨und1 rfl, trivial⟩ (fun hw12 => g_notd rfl) rfl ?_
    refine ow_g (g_por rfl rfl hgc3) rfl ?_
    refine ow_nil (tw_keep [(2, _), (5, _), (61, _)] ⟨rfl, rfl, rfl, trivial⟩ ?_)
    refine tw_cond rfl (fun hc6 => ?_) (fun hc6 => ?_)
    ·
     have hd5 := hc6
     try (simp only [Bool.and_eq_true, Bool.or_eq_true, decide_eq_true_eq, Bool.and_eq_false_iff, Bool.or_eq_false_iff, decide_eq_false_iff_not, Bool.not_eq_true', Bool.not_eq_false', Bool.not_eq_true, Bool.not_eq_false, ne_eq, Decidable.not_not, decide_true, decide_false, Bool.true_and, Bool.false_and, Bool.or_false, Bool.false_or, not_true_eq_false, false_or, or_false, true_and, and_true, not_false_eq_true, reduceCtorEq] at hd5)
     refine tw_seq (tw_region (ow_g (g_bld (idx := []) (xs := []) (vs := []) (css := []) (out := [_, _, _, _, _, _, _, _, _, _, _, _, _, _, _, _, _, _, _]) pl34 ty34 rfl rfl trivial rfl rfl) rfl ?_))
     refine ow_d0 (d_sta ty34 rfl rfl rfl (by simp only [List.forall_mem_cons]; refine ⟨rfl, rfl, rfl, rfl, rfl, rfl, rfl, rfl, rfl, rfl, rfl, rfl, rfl, rfl, rfl, rfl, rfl, rfl, rfl, fun v hv => by cases hv⟩) hb1 rfl) ?_
     rintro _ w21 ⟨hb11, k17, z11⟩
     replace hb10 := hb10.keep k17 (fun hm => absurd (List.mem_singleton.1 hm) (Ne.symm ne_b1_b2))
     replace o5 := o5.keep k17 (fun x hx hm => sb_b1_o5 x hx (List.mem_singleton.1 hm))
     replace hB := hB.new k17 (fun x hx => .inl ((List.mem_singleton.1 hx) ▸ ge_b1))
     clear z11
     replace hb11 : Bk w21 b1 _ [.int .i64 0, .slice none 0 0, .slice none 0 0, .slice none 0 0, .slice none 0 0, .int .i64 0, .slice none 0 0, .slice none 0 0, .slice none 0 0, .slice none 0 0, .slice none 0 0, .slice none 0 0, .int .i64 0, .slice none 0 0, .slice none 0 0, .int .i64 0, .slice none 0 0, .slice none 0 0, .slice none 0 0] := hb11
     refine ow_g (g_as rfl) rfl (ow_nil (tw_retct hfin Try.results9 rfl (run_loadAgg ag34 ty34 hb11 rfl) rfl ?_))
     have hk : (kyA c).1 = 3 := by assumption
     obtain ⟨e1, e2, e3⟩ := ky_3 hk
     have eX : kpP c = ⟨(kyA c).1, pk0, lf0, (kyN c).1, [], [], []⟩ := by
      unfold kpP; simp only; rw [if_pos (by omega)]; rw [hk]; exact e1
     obtain ⟨hd1, hd2⟩ := ky_doc c
     have hok : kpOk c = false := by
      have hh := kp_b (prOk ⟨(kyA c).1, pk0, lf0, (kyN c).1, [], [], []⟩) (prB ⟨(kyA c).1, pk0, lf0, (kyN c).1, [], [], []⟩) c
      rw [show (decide ((bif prOk ⟨(kyA c).1, pk0, lf0, (kyN c).1, [], [], []⟩ then (0 : Int) else 1) ≠ 0) || decide (¬ (bif prOk ⟨(kyA c).1, pk0, lf0, (kyN c).1, [], [], []⟩ then prB ⟨(kyA c).1, pk0, lf0, (kyN c).1, [], [], []⟩ else []) = c)) = true from by assumption] at hh
      unfold kpOk; rw [eX]; cases hq : (prOk ⟨(kyA c).1, pk0, lf0, (kyN c).1, [], [], []⟩ && decide (prB ⟨(kyA c).1, pk0, lf0, (kyN c).1, [], [], []⟩ = c)) <;> rw [hq] at hh <;> first | rfl | (cases hh; done)
     unfold kgR kgE; rw [hd1, hok]
     exact ⟨_, _, _, _, _, _, _, _, _, _, _, _, _, _, _, rfl, own_nil _ _ _ _, own_nil _ _ _ _, own_nil _ _ _ _, own_nil _ _ _ _, own_nil _ _ _ _, own_nil _ _ _ _, own_nil _ _ _ _, own_nil _ _ _ _, own_nil _ _ _ _, own_nil _ _ _ _, own_nil _ _ _ _, own_nil _ _ _ _, own_nil _ _ _ _, own_nil _ _ _ _, own_nil _ _ _ _, hB⟩
    ·
     have hd6 := hc6
     try (simp only [Bool.and_eq_true, Bool.or_eq_true, decide_eq_true_eq, Bool.and_eq_false_iff, Bool.or_eq_false_iff, decide_eq_false_iff_not, Bool.not_eq_true', Bool.not_eq_false', Bool.not_eq_true, Bool.not_eq_false, ne_eq, Decidable.not_not, decide_true, decide_false, Bool.true_and, Bool.false_and, Bool.or_false, Bool.false_or, not_true_eq_false, false_or, or_false, true_and, and_true, not_false_eq_true, reduceCtorEq] at hd6)
     refine tw_skip (tw_seq (tw_region (ow_g (g_ldab (cs' := [_, _, _, _, _, _, _, _, _, _, _, _, _, _, _, _, _, _, _]) ag34 ty34 rfl hb10 rfl rfl) rfl ?_)))
     refine ow_d0 (d_sta ty34 rfl rfl rfl (by simp only [List.forall_mem_cons]; refine ⟨rfl, rfl, rfl, rfl, rfl, rfl, rfl, rfl, rfl, rfl, rfl, rfl, rfl, rfl, rfl, rfl, rfl, rfl, rfl, fun v hv => by cases hv⟩) hb1 rfl) ?_
     rintro _ w22 ⟨hb12, k18, z12⟩
     replace hb10 := hb10.keep k18 (fun hm => absurd (List.mem_singleton.1 hm) (Ne.symm ne_b1_b2))
     replace o5 := o5.keep k18 (fun x hx hm => sb_b1_o5 x hx (List.mem_singleton.1 hm))
     replace hB := hB.new k18 (fun x hx => .inl ((List.mem_singleton.1 hx) ▸ ge_b1))
     clear z12
     replace hb12 : Bk w22 b1 _ [.int .i64 (kyA c).1, .slice none 0 0, .slice none 0 0, .slice none 0 0, .slice none 0 0, .int .i64 0, .slice none 0 0, .slice none 0 0, .slice none 0 0, .slice none 0 0, .slice none 0 0, .slice none 0 0, .int .i64 0, .slice none 0 0, .slice none 0 0, .int .i64 (kyN c).1, .slice none 0 0, .slice none 0 0, .slice none 0 0] := hb12
     refine ow_g (g_as rfl) rfl (ow_nil (tw_retct hfin Try.results9 rfl (run_loadAgg ag34 ty34 hb12 rfl) rfl ?_))
     have hk : (kyA c).1 = 3 := by assumption
     obtain ⟨e1, e2, e3⟩ := ky_3 hk
     have eX : kpP c = ⟨(kyA c).1, pk0, lf0, (kyN c).1, [], [], []⟩ := by
      unfold kpP; simp only; rw [if_pos (by omega)]; rw [hk]; exact e1
     obtain ⟨hd1, hd2⟩ := ky_doc c
     have hok : kpOk c = true := by
      have hh := kp_b (prOk ⟨(kyA c).1, pk0, lf0, (kyN c).1, [], [], []⟩) (prB ⟨(kyA c).1, pk0, lf0, (kyN c).1, [], [], []⟩) c
      rw [show (decide ((bif prOk ⟨(kyA c).1, pk0, lf0, (kyN c).1, [], [], []⟩ then (0 : Int) else 1) ≠ 0) || decide (¬ (bif prOk ⟨(kyA c).1, pk0, lf0, (kyN c).1, [], [], []⟩ then prB ⟨(kyA c).1, pk0, lf0, (kyN c).1, [], [], []⟩ else []) = c)) = false from by assumption] at hh
      unfold kpOk; rw [eX]; cases hq : (prOk ⟨(kyA c).1, pk0, lf0, (kyN c).1, [], [], []⟩ && decide (prB ⟨(kyA c).1, pk0, lf0, (kyN c).1, [], [], []⟩ = c)) <;> rw [hq] at hh <;> first | rfl | (cases hh; done)
     rw [show kgR c = ⟨(kyA c).1, pk0, lf0, (kyN c).1, [], [], []⟩ from by unfold kgR; rw [hd1, hok, cond_true, ← hd2 hok]; exact eX, show kgE c = 0 from by unfold kgE; rw [hd1, hok]; rfl]
     exact ⟨_, _, _, _, _, _, _, _, _, _, _, _, _, _, _, rfl, own_nil _ _ _ _, own_nil _ _ _ _, own_nil _ _ _ _, own_nil _ _ _ _, own_nil _ _ _ _, own_nil _ _ _ _, own_nil _ _ _ _, own_nil _ _ _ _, own_nil _ _ _ _, own_nil _ _ _ _, own_nil _ _ _ _, own_nil _ _ _ _, own_nil _ _ _ _, own_nil _ _ _ _, own_nil _ _ _ _, hB⟩
   ·
    refine tw_seq (tw_region (ow_g (g_eq rfl rfl) rfl ?_))
    refine ow_g (g_as rfl) rfl (ow_nil (tw_if rfl (fun hc7 => ?_) (fun hc7 => ?_)))
    ·
     refine tw_region (ow_g (g_mv rfl) rfl ?_)
     have lv_km5 := rr.lt
     have gw_o6 := hB.size
     have lb_o6_b1 := hb1.lt
     have lb_o6_b2 := hb3.lt
     refine ow_d (d_call (vs := [_]) rfl (vector_any p1 (kyA c).2.1 (kyA c).2.2 _ rr (by omega))) rfl ?_
     rintro v3 w23 ⟨_, rfl, o6, rr, km5⟩
     have gl_o6 := hB.size
     have sb_b1_o6 := fun x hx => (show x ≠ b1 from by have h1 := (o6.blk x hx).1; have h2 := hb1.lt; omega)
     have sb_b2_o6 := fun x hx => (show x ≠ b2 from by have h1 := (o6.blk x hx).1; have h2 := hb3.lt; omega)
     have z_km5 := km5.size
     replace hb1 := hb1.keep km5 (fun hm => by have h9 := List.mem_singleton.1 hm; omega)
     replace hb3 := hb3.keep km5 (fun hm => by have h9 := List.mem_singleton.1 hm; omega)
     replace hB := hB.new km5 (fun x hm => .inl (by have h9 := List.mem_singleton.1 hm; omega))
     have rr : Rdr w23 p1 (kyV c).2.1 (kyV c).2.2 := rr
     replace o6 : OwnB w23 w5.heap.size v3 (kyV c).1 := o6
     have u_o6 := o6.blk
     refine ow_g (g_mv rfl) rfl ?_
     have lv_km6 := rr.lt
     have gw_o7 := hB.size
     have lb_o7_b1 := hb1.lt
     have lb_o7_b2 := hb3.lt
     refine ow_d (d_call (vs := [_]) rfl (vector_any p1 (kyV c).2.1 (kyV c).2.2 _ rr (by omega))) rfl ?_
     rintro v4 w24 ⟨_, rfl, o7, rr, km6⟩
     have gl_o7 := hB.size
     have sb_b1_o7 := fun x hx => (show x ≠ b1 from by have h1 := (o7.blk x hx).1; have h2 := hb1.lt; omega)
     have sb_b2_o7 := fun x hx => (show x ≠ b2 from by have h1 := (o7.blk x hx).1; have h2 := hb3.lt; omega)
     have z_km6 := km6.size
     replace hb1 := hb1.keep km6 (fun hm => by have h9 := List.mem_singleton.1 hm; omega)
     replace hb3 := hb3.keep km6 (fun hm => by have h9 := List.mem_singleton.1 hm; omega)
     replace o6 := o6.keep km6 (fun x hx hm => by have h9 := List.mem_singleton.1 hm; have h8 := (o6.blk x hx).1; omega)
     replace hB := hB.new km6 (fun x hm => .inl (by have h9 := List.mem_singleton.1 hm; omega))
     have rr : Rdr w24 p1 (kyW c).2.1 (kyW c).2.2 := rr
     replace o7 : OwnB w24 w23.heap.size v4 (kyW c).1 := o7
     have u_o7 := o7.blk
     refine ow_g (g_fa Try.underlying34 rfl ty22 (by decide) rfl) rfl ?_
     refine ow_d0 (d_st ty22 rfl rfl (Rd.one (by first | assumption | exact Own.rd ‹_› | exact Rd.keep0 ‹_› hB | exact Own.rd (Own.keep0 ‹_› hB))) hb3 rfl) ?_
     rintro _ w25 ⟨hb13, k19, z13⟩
     replace hb1 := hb1.keep k19 (fun hm => absurd (List.mem_singleton.1 hm) ne_b1_b2)
     replace rr := rr.keep k19 (fun x hx hm => (fun x (hx : x ≤ p1) => (show x ≠ b2 from by omega)) x hx (List.mem_singleton.1 hm))
     replace o6 := o6.keep k19 (fun x hx hm => sb_b2_o6 x hx (List.mem_singleton.1 hm))
     replace o7 := o7.keep k19 (fun x hx hm => sb_b2_o7 x hx (List.mem_singleton.1 hm))
     replace hB := hB.new k19 (fun x hx => .inl ((List.mem_singleton.1 hx) ▸ ge_b2))
     clear z13
     replace hb13 : Bk w25 b2 _ [.int .i64 (kyA c).1, .slice none 0 0, .slice none 0 0, .slice none 0 0, .slice none 0 0, .int .i64 0, .slice none 0 0, .slice none 0 0, .slice none 0 0, .slice none 0 0, .slice none 0 0, .slice none 0 0, .int .i64 0, .slice none 0 0, .slice none 0 0, .int .i64 0, v3, .slice none 0 0, .slice none 0 0] := hb13
     refine ow_g (g_fa Try.underlying34 rfl ty22 (by decide) rfl) rfl ?_
     refine ow_d0 (d_st ty22 rfl rfl (Rd.one (by first | assumption | exact Own.rd ‹_› | exact Rd.keep0 ‹_› hB | exact Own.rd (Own.keep0 ‹_› hB))) hb13 rfl) ?_
     rintro _ w26 ⟨hb14, k20, z14⟩
     replace hb1 := hb1.keep k20 (fun hm => absurd (List.mem_singleton.1 hm) ne_b1_b2)
     replace rr := rr.keep k20 (fun x hx hm => (fun x (hx : x ≤ p1) => (show x ≠ b2 from by omega)) x hx (List.mem_singleton.1 hm))
     replace o6 := o6.keep k20 (fun x hx hm => sb_b2_o6 x hx (List.mem_singleton.1 hm))
     replace o7 := o7.keep k20 (fun x hx hm => sb_b2_o7 x hx (List.mem_singleton.1 hm))
     replace hB := hB.new k20 (fun x hx => .inl ((List.mem_singleton.1 hx) ▸ ge_b2))
     clear z14
     replace hb14 : Bk w26 b2 _ [.int .i64 (kyA c).1, .slice none 0 0, .slice none 0 0, .slice none 0 0, .slice none 0 0, .int .i64 0, .slice none 0 0, .slice none 0 0, .slice none 0 0, .slice none 0 0, .slice none 0 0, .slice none 0 0, .int .i64 0, .slice none 0 0, .slice none 0 0, .int .i64 0, v3, v4, .slice none 0 0] := hb14
     refine ow_nil (tw_keep [(0, _), (2, _), (5, _)] ⟨rfl, rfl, rfl, trivial⟩ ?_)
     refine tw_b (tw_seq (tw_seq (tw_region (ow_g (g_ldab (cs' := [_, _, _, _, _, _, _, _, _, _, _, _, _, _, _, _, _, _, _]) ag34 ty34 rfl hb14 rfl rfl) rfl ?_))))
     refine ow_d (d_call (vs := [_]) rfl (kput_any _ _ _ _ _ _ _ _ _ _ _ _ _ _ _ ⟨(kyA c).1, pk0, lf0, 0, (kyV c).1, (kyW c).1, []⟩ _ (show RdB _ _ [] from Rd.nil _ _) (show RdB _ _ [] from Rd.nil _ _) (show RdB _ _ [] from Rd.nil _ _) (show RdB _ _ [] from Rd.nil _ _) (show RdB _ _ [] from Rd.nil _ _) (show RdB _ _ [] from Rd.nil _ _) (show RdB _ _ [] from Rd.nil _ _) (show RdB _ _ [] from Rd.nil _ _) (show RdB _ _ [] from Rd.nil _ _) (show RdB _ _ [] from Rd.nil _ _) (show RdB _ _ [] from Rd.nil _ _) (show RdB _ _ [] from Rd.nil _ _) o6.rd o7.rd (show RdB _ _ [] from Rd.nil _ _) (Nat.zero_le _) (Nat.zero_le _) (Nat.zero_le _) (Nat.zero_le _) (Nat.zero_le _) (Nat.zero_le _) (Nat.zero_le _) (Nat.zero_le _) (Nat.zero_le _) (Nat.zero_le _) (Nat.zero_le _) (Nat.zero_le _) hlV hlW (Nat.zero_le _))) rfl ?_
     rintro _ w27 ⟨u4, rfl, o8, k21⟩
     have gl_o8 := hB.size
     have sb_b1_o8 := fun x hx => (show x ≠ b1 from by have h1 := (o8.blk x hx).1; have h2 := hb1.lt; omega)
     have sb_b2_o8 := fun x hx => (show x ≠ b2 from by have h1 := (o8.blk x hx).1; have h2 := hb14.lt; omega)
     replace hb1 := hb1.keep0 k21
     replace o6 := o6.keep0 k21
     replace o7 := o7.keep0 k21
     replace hb14 := hb14.keep0 k21
     replace hB := hB.trans k21
     have u_o8 := o8.blk
     refine ow_g (g_mv rfl) rfl (ow_g (g_ext (vs := [_, _]) rfl rfl) rfl ?_)
     refine ow_g (g_ext (vs := [_, _]) rfl rfl) rfl ?_
     refine ow_g (g_as rfl) rfl (ow_g (g_as rfl) rfl (ow_nil (tw_seq (tw_region (ow_g (g_mv rfl) rfl (ow_g (g_ne rfl rfl) rfl ?_))))))
     refine ow_g (g_mv rfl) rfl (ow_grp 56 false rfl (fun c4 hgc4 => ?_))
     refine ow_gg [(6, _)] (grd1 rfl rfl rfl hgc4) ⟨und0 rfl, trivial⟩ (fun hw13 => g_mv rfl) rfl ?_
     refine ow_gg [(0, _)] (grd1 rfl rfl rfl hgc4) ⟨und0 rfl, trivial⟩ (fun hw14 => g_mv rfl) rfl ?_
     refine ow_gds [(57, _), (58, _)] (grd1 rfl rfl rfl hgc4) ⟨und1 rfl, und1 rfl, trivial⟩ (fun hw15 => d_call (vs := [_, _]) rfl (nbeq_any _ _ (bif prOk ⟨(kyA c).1, pk0, lf0, 0, (kyV c).1, (kyW c).1, []⟩ then prB ⟨(kyA c).1, pk0, lf0, 0, (kyV c).1, (kyW c).1, []⟩ else []) c _ o8.rd (hv.keep0 hB))) rfl ?_
     refine ow_gg [(59, _)] (grd1 rfl rfl rfl hgc4) ⟨und1 rfl, trivial⟩ (fun hw16 => g_notd rfl) rfl ?_
     refine ow_g (g_por rfl rfl hgc4) rfl ?_
     refine ow_nil (tw_keep [(2, _), (5, _), (61, _)] ⟨rfl, rfl, rfl, trivial⟩ ?_)
     refine tw_cond rfl (fun hc8 => ?_) (fun hc8 => ?_)
     ·
      have hd7 := hc8
      try (simp only [Bool.and_eq_true, Bool.or_eq_true, decide_eq_true_eq, Bool.and_eq_false_iff, Bool.or_eq_false_iff, decide_eq_false_iff_not, Bool.not_eq_true', Bool.not_eq_false', Bool.not_eq_true, Bool.not_eq_false, ne_eq, Decidable.not_not, decide_true, decide_false, Bool.true_and, Bool.false_and, Bool.or_false, Bool.false_or, not_true_eq_false, false_or, or_false, true_and, and_true, not_false_eq_true, reduceCtorEq] at hd7)
      refine tw_seq (tw_region (ow_g (g_bld (idx := []) (xs := []) (vs := []) (css := []) (out := [_, _, _, _, _, _, _, _, _, _, _, _, _, _, _, _, _, _, _]) pl34 ty34 rfl rfl trivial rfl rfl) rfl ?_))
      refine ow_d0 (d_sta ty34 rfl rfl rfl (by simp only [List.forall_mem_cons]; refine ⟨rfl, rfl, rfl, rfl, rfl, rfl, rfl, rfl, rfl, rfl, rfl, rfl, rfl, rfl, rfl, rfl, rfl, rfl, rfl, fun v hv => by cases hv⟩) hb1 rfl) ?_
      rintro _ w28 ⟨hb15, k22, z15⟩
      replace o6 := o6.keep k22 (fun x hx hm => sb_b1_o6 x hx (List.mem_singleton.1 hm))
      replace o7 := o7.keep k22 (fun x hx hm => sb_b1_o7 x hx (List.mem_singleton.1 hm))
      replace hb14 := hb14.keep k22 (fun hm => absurd (List.mem_singleton.1 hm) (Ne.symm ne_b1_b2))
      replace o8 := o8.keep k22 (fun x hx hm => sb_b1_o8 x hx (List.mem_singleton.1 hm))
      replace hB := hB.new k22 (fun x hx => .inl ((List.mem_singleton.1 hx) ▸ ge_b1))
      clear z15
      replace hb15 : Bk w28 b1 _ [.int .i64 0, .slice none 0 0, .slice none 0 0, .slice none 0 0, .slice none 0 0, .int .i64 0, .slice none 0 0, .slice none 0 0, .slice none 0 0, .slice none 0 0, .slice none 0 0, .slice none 0 0, .int .i64 0, .slice none 0 0, .slice none 0 0, .int .i64 0, .slice none 0 0, .slice none 0 0, .slice none 0 0] := hb15
      refine ow_g (g_as rfl) rfl (ow_nil (tw_retct hfin Try.results9 rfl (run_loadAgg ag34 ty34 hb15 rfl) rfl ?_))
      have hk : (kyA c).1 = 4 := by assumption
      obtain ⟨e1, e2, e3⟩ := ky_4 hk
      have eX : kpP c = ⟨(kyA c).1, pk0, lf0, 0, (kyV c).1, (kyW c).1, []⟩ := by
       unfold kpP; simp only; rw [if_pos (by omega)]; rw [hk]; exact e1
      obtain ⟨hd1, hd2⟩ := ky_doc c
      have hok : kpOk c = false := by
       have hh := kp_b (prOk ⟨(kyA c).1, pk0, lf0, 0, (kyV c).1, (kyW c).1, []⟩) (prB ⟨(kyA c).1, pk0, lf0, 0, (kyV c).1, (kyW c).1, []⟩) c
       rw [show (decide ((bif prOk ⟨(kyA c).1, pk0, lf0, 0, (kyV c).1, (kyW c).1, []⟩ then (0 : Int) else 1) ≠ 0) || decide (¬ (bif prOk ⟨(kyA c).1, pk0, lf0, 0, (kyV c).1, (kyW c).1, []⟩ then prB ⟨(kyA c).1, pk0, lf0, 0, (kyV c).1, (kyW c).1, []⟩ else []) = c)) = true from by assumption] at hh
       unfold kpOk; rw [eX]; cases hq : (prOk ⟨(kyA c).1, pk0, lf0, 0, (kyV c).1, (kyW c).1, []⟩ && decide (prB ⟨(kyA c).1, pk0, lf0, 0, (kyV c).1, (kyW c).1, []⟩ = c)) <;> rw [hq] at hh <;> first | rfl | (cases hh; done)
      unfold kgR kgE; rw [hd1, hok]
      exact ⟨_, _, _, _, _, _, _, _, _, _, _, _, _, _, _, rfl, own_nil _ _ _ _, own_nil _ _ _ _, own_nil _ _ _ _, own_nil _ _ _ _, own_nil _ _ _ _, own_nil _ _ _ _, own_nil _ _ _ _, own_nil _ _ _ _, own_nil _ _ _ _, own_nil _ _ _ _, own_nil _ _ _ _, own_nil _ _ _ _, own_nil _ _ _ _, own_nil _ _ _ _, own_nil _ _ _ _, hB⟩
     ·
      have hd8 := hc8
      try (simp only [Bool.and_eq_true, Bool.or_eq_true, decide_eq_true_eq, Bool.and_eq_false_iff, Bool.or_eq_false_iff, decide_eq_false_iff_not, Bool.not_eq_true', Bool.not_eq_false', Bool.not_eq_true, Bool.not_eq_false, ne_eq, Decidable.not_not, decide_true, decide_false, Bool.true_and, Bool.false_and, Bool.or_false, Bool.false_or, not_true_eq_false, false_or, or_false, true_and, and_true, not_false_eq_true, reduceCtorEq] at hd8)
      refine tw_skip (tw_seq (tw_region (ow_g (g_ldab (cs' := [_, _, _, _, _, _, _, _, _, _, _, _, _, _, _, _, _, _, _]) ag34 ty34 rfl hb14 rfl rfl) rfl ?_)))
      refine ow_d0 (d_sta ty34 rfl rfl rfl (by simp only [List.forall_mem_cons]; exact ⟨rfl, rfl, rfl, rfl, rfl, rfl, rfl, rfl, rfl, rfl, rfl, rfl, rfl, rfl, rfl, rfl, (Own.rd o6).one, (Own.rd o7).one, rfl, fun v hv => by cases hv⟩) hb1 rfl) ?_
      rintro _ w29 ⟨hb16, k23, z16⟩
      replace o6 := o6.keep k23 (fun x hx hm => sb_b1_o6 x hx (List.mem_singleton.1 hm))
      replace o7 := o7.keep k23 (fun x hx hm => sb_b1_o7 x hx (List.mem_singleton.1 hm))
      replace hb14 := hb14.keep k23 (fun hm => absurd (List.mem_singleton.1 hm) (Ne.symm ne_b1_b2))
      replace o8 := o8.keep k23 (fun x hx hm => sb_b1_o8 x hx (List.mem_singleton.1 hm))
      replace hB := hB.new k23 (fun x hx => .inl ((List.mem_singleton.1 hx) ▸ ge_b1))
      clear z16
      replace hb16 : Bk w29 b1 _ [.int .i64 (kyA c).1, .slice none 0 0, .slice none 0 0, .slice none 0 0, .slice none 0 0, .int .i64 0, .slice none 0 0, .slice none 0 0, .slice none 0 0, .slice none 0 0, .slice none 0 0, .slice none 0 0, .int .i64 0, .slice none 0 0, .slice none 0 0, .int .i64 0, v3, v4, .slice none 0 0] := hb16
      refine ow_g (g_as rfl) rfl (ow_nil (tw_retct hfin Try.results9 rfl (run_loadAgg ag34 ty34 hb16 rfl) rfl ?_))
      have hk : (kyA c).1 = 4 := by assumption
      obtain ⟨e1, e2, e3⟩ := ky_4 hk
      have eX : kpP c = ⟨(kyA c).1, pk0, lf0, 0, (kyV c).1, (kyW c).1, []⟩ := by
       unfold kpP; simp only; rw [if_pos (by omega)]; rw [hk]; exact e1
      obtain ⟨hd1, hd2⟩ := ky_doc c
      have hok : kpOk c = true := by
       have hh := kp_b (prOk ⟨(kyA c).1, pk0, lf0, 0, (kyV c).1, (kyW c).1, []⟩) (prB ⟨(kyA c).1, pk0, lf0, 0, (kyV c).1, (kyW c).1, []⟩) c
       rw [show (decide ((bif prOk ⟨(kyA c).1, pk0, lf0, 0, (kyV c).1, (kyW c).1, []⟩ then (0 : Int) else 1) ≠ 0) || decide (¬ (bif prOk ⟨(kyA c).1, pk0, lf0, 0, (kyV c).1, (kyW c).1, []⟩ then prB ⟨(kyA c).1, pk0, lf0, 0, (kyV c).1, (kyW c).1, []⟩ else []) = c)) = false from by assumption] at hh
       unfold kpOk; rw [eX]; cases hq : (prOk ⟨(kyA c).1, pk0, lf0, 0, (kyV c).1, (kyW c).1, []⟩ && decide (prB ⟨(kyA c).1, pk0, lf0, 0, (kyV c).1, (kyW c).1, []⟩ = c)) <;> rw [hq] at hh <;> first | rfl | (cases hh; done)
      rw [show kgR c = ⟨(kyA c).1, pk0, lf0, 0, (kyV c).1, (kyW c).1, []⟩ from by unfold kgR; rw [hd1, hok, cond_true, ← hd2 hok]; exact eX, show kgE c = 0 from by unfold kgE; rw [hd1, hok]; rfl]
      exact ⟨_, _, _, _, _, _, _, _, _, _, _, _, _, _, _, rfl, own_nil _ _ _ _, own_nil _ _ _ _, own_nil _ _ _ _, own_nil _ _ _ _, own_nil _ _ _ _, own_nil _ _ _ _, own_nil _ _ _ _, own_nil _ _ _ _, own_nil _ _ _ _, own_nil _ _ _ _, own_nil _ _ _ _, own_nil _ _ _ _, o6.lo gw_o6, o7.lo gw_o7, own_nil _ _ _ _, hB⟩
    ·
     refine tw_region (ow_g (g_mv rfl) rfl ?_)
     have lv_km7 := rr.lt
     have gw_o9 := hB.size
     have lb_o9_b1 := hb1.lt
     have lb_o9_b2 := hb3.lt
     refine ow_d (d_call (vs := [_]) rfl (vector_any p1 (kyA c).2.1 (kyA c).2.2 _ rr (by omega))) rfl ?_
     rintro v5 w30 ⟨_, rfl, o9, rr, km7⟩
     have gl_o9 := hB.size
     have sb_b1_o9 := fun x hx => (show x ≠ b1 from by have h1 := (o9.blk x hx).1; have h2 := hb1.lt; omega)
     have sb_b2_o9 := fun x hx => (show x ≠ b2 from by have h1 := (o9.blk x hx).1; have h2 := hb3.lt; omega)
     have z_km7 := km7.size
     replace hb1 := hb1.keep km7 (fun hm => by have h9 := List.mem_singleton.1 hm; omega)
     replace hb3 := hb3.keep km7 (fun hm => by have h9 := List.mem_singleton.1 hm; omega)
     replace hB := hB.new km7 (fun x hm => .inl (by have h9 := List.mem_singleton.1 hm; omega))
     have rr : Rdr w30 p1 (kyV c).2.1 (kyV c).2.2 := rr
     replace o9 : OwnB w30 w5.heap.size v5 (kyV c).1 := o9
     have u_o9 := o9.blk
     refine ow_g (g_fa Try.underlying34 rfl ty22 (by decide) rfl) rfl ?_
     refine ow_d0 (d_st ty22 rfl rfl (Rd.one (by first | assumption | exact Own.rd ‹_› | exact Rd.keep0 ‹_› hB | exact Own.rd (Own.keep0 ‹_› hB))) hb3 rfl) ?_
     rintro _ w31 ⟨hb17, k24, z17⟩
     replace hb1 := hb1.keep k24 (fun hm => absurd (List.mem_singleton.1 hm) ne_b1_b2)
     replace rr := rr.keep k24 (fun x hx hm => (fun x (hx : x ≤ p1) => (show x ≠ b2 from by omega)) x hx (List.mem_singleton.1 hm))
     replace o9 := o9.keep k24 (fun x hx hm => sb_b2_o9 x hx (List.mem_singleton.1 hm))
     replace hB := hB.new k24 (fun x hx => .inl ((List.mem_singleton.1 hx) ▸ ge_b2))
     clear z17
     replace hb17 : Bk w31 b2 _ [.int .i64 (kyA c).1, .slice none 0 0, .slice none 0 0, .slice none 0 0, .slice none 0 0, .int .i64 0, .slice none 0 0, .slice none 0 0, .slice none 0 0, .slice none 0 0, .slice none 0 0, .slice none 0 0, .int .i64 0, .slice none 0 0, .slice none 0 0, .int .i64 0, .slice none 0 0, .slice none 0 0, v5] := hb17
     refine ow_nil (tw_keep [(0, _), (2, _), (5, _)] ⟨rfl, rfl, rfl, trivial⟩ ?_)
     refine tw_b (tw_seq (tw_seq (tw_region (ow_g (g_ldab (cs' := [_, _, _, _, _, _, _, _, _, _, _, _, _, _, _, _, _, _, _]) ag34 ty34 rfl hb17 rfl rfl) rfl ?_))))
     refine ow_d (d_call (vs := [_]) rfl (kput_any _ _ _ _ _ _ _ _ _ _ _ _ _ _ _ ⟨(kyA c).1, pk0, lf0, 0, [], [], (kyV c).1⟩ _ (show RdB _ _ [] from Rd.nil _ _) (show RdB _ _ [] from Rd.nil _ _) (show RdB _ _ [] from Rd.nil _ _) (show RdB _ _ [] from Rd.nil _ _) (show RdB _ _ [] from Rd.nil _ _) (show RdB _ _ [] from Rd.nil _ _) (show RdB _ _ [] from Rd.nil _ _) (show RdB _ _ [] from Rd.nil _ _) (show RdB _ _ [] from Rd.nil _ _) (show RdB _ _ [] from Rd.nil _ _) (show RdB _ _ [] from Rd.nil _ _) (show RdB _ _ [] from Rd.nil _ _) (show RdB _ _ [] from Rd.nil _ _) (show RdB _ _ [] from Rd.nil _ _) o9.rd (Nat.zero_le _) (Nat.zero_le _) (Nat.zero_le _) (Nat.zero_le _) (Nat.zero_le _) (Nat.zero_le _) (Nat.zero_le _) (Nat.zero_le _) (Nat.zero_le _) (Nat.zero_le _) (Nat.zero_le _) (Nat.zero_le _) (Nat.zero_le _) (Nat.zero_le _) hlV)) rfl ?_
     rintro _ w32 ⟨u5, rfl, o10, k25⟩
     have gl_o10 := hB.size
     have sb_b1_o10 := fun x hx => (show x ≠ b1 from by have h1 := (o10.blk x hx).1; have h2 := hb1.lt; omega)
     have sb_b2_o10 := fun x hx => (show x ≠ b2 from by have h1 := (o10.blk x hx).1; have h2 := hb17.lt; omega)
     replace hb1 := hb1.keep0 k25
     replace o9 := o9.keep0 k25
     replace hb17 := hb17.keep0 k25
     replace hB := hB.trans k25
     have u_o10 := o10.blk
     refine ow_g (g_mv rfl) rfl (ow_g (g_ext (vs := [_, _]) rfl rfl) rfl ?_)
     refine ow_g (g_ext (vs := [_, _]) rfl rfl) rfl ?_
     refine ow_g (g_as rfl) rfl (ow_g (g_as rfl) rfl (ow_nil (tw_seq (tw_region (ow_g (g_mv rfl) rfl (ow_g (g_ne rfl rfl) rfl ?_))))))
     refine ow_g (g_mv rfl) rfl (ow_grp 56 false rfl (fun c5 hgc5 => ?_))
     refine ow_gg [(6, _)] (grd1 rfl rfl rfl hgc5) ⟨und0 rfl, trivial⟩ (fun hw17 => g_mv rfl) rfl ?_
     refine ow_gg [(0, _)] (grd1 rfl rfl rfl hgc5) ⟨und0 rfl, trivial⟩ (fun hw18 => g_mv rfl) rfl ?_
     refine ow_gds [(57, _), (58, _)] (grd1 rfl rfl rfl hgc5) ⟨und1 rfl, und1 rfl, trivial⟩ (fun hw19 => d_call (vs := [_, _]) rfl (nbeq_any _ _ (bif prOk ⟨(kyA c).1, pk0, lf0, 0, [], [], (kyV c).1⟩ then prB ⟨(kyA c).1, pk0, lf0, 0, [], [], (kyV c).1⟩ else []) c _ o10.rd (hv.keep0 hB))) rfl ?_
     refine ow_gg [(59, _)] (grd1 rfl rfl rfl hgc5) ⟨und1 rfl, trivial⟩ (fun hw20 => g_notd rfl) rfl ?_
     refine ow_g (g_por rfl rfl hgc5) rfl ?_
     refine ow_nil (tw_keep [(2, _), (5, _), (61, _)] ⟨rfl, rfl, rfl, trivial⟩ ?_)
     refine tw_cond rfl (fun hc9 => ?_) (fun hc9 => ?_)
     ·
      have hd9 := hc9
      try (simp only [Bool.and_eq_true, Bool.or_eq_true, decide_eq_true_eq, Bool.and_eq_false_iff, Bool.or_eq_false_iff, decide_eq_false_iff_not, Bool.not_eq_true', Bool.not_eq_false', Bool.not_eq_true, Bool.not_eq_false, ne_eq, Decidable.not_not, decide_true, decide_false, Bool.true_and, Bool.false_and, Bool.or_false, Bool.false_or, not_true_eq_false, false_or, or_false, true_and, and_true, not_false_eq_true, reduceCtorEq] at hd9)
      refine tw_seq (tw_region (ow_g (g_bld (idx := []) (xs := []) (vs := []) (css := []) (out := [_, _, _, _, _, _, _, _, _, _, _, _, _, _, _, _, _, _, _]) pl34 ty34 rfl rfl trivial rfl rfl) rfl ?_))
      refine ow_d0 (d_sta ty34 rfl rfl rfl (by simp only [List.forall_mem_cons]; refine ⟨rfl, rfl, rfl, rfl, rfl, rfl, rfl, rfl, rfl, rfl, rfl, rfl, rfl, rfl, rfl, rfl, rfl, rfl, rfl, fun v hv => by cases hv⟩) hb1 rfl) ?_
      rintro _ w33 ⟨hb18, k26, z18⟩
      replace o9 := o9.keep k26 (fun x hx hm => sb_b1_o9 x hx (List.mem_singleton.1 hm))
      replace hb17 := hb17.keep k26 (fun hm => absurd (List.mem_singleton.1 hm) (Ne.symm ne_b1_b2))
      replace o10 := o10.keep k26 (fun x hx hm => sb_b1_o10 x hx (List.mem_singleton.1 hm))
      replace hB := hB.new k26 (fun x hx => .inl ((List.mem_singleton.1 hx) ▸ ge_b1))
      clear z18
      replace hb18 : Bk w33 b1 _ [.int .i64 0, .slice none 0 0, .slice none 0 0, .slice none 0 0, .slice none 0 0, .int .i64 0, .slice none 0 0, .slice none 0 0, .slice none 0 0, .slice none 0 0, .slice none 0 0, .slice none 0 0, .int .i64 0, .slice none 0 0, .slice none 0 0, .int .i64 0, .slice none 0 0, .slice none 0 0, .slice none 0 0] := hb18
      refine ow_g (g_as rfl) rfl (ow_nil (tw_retct hfin Try.results9 rfl (run_loadAgg ag34 ty34 hb18 rfl) rfl ?_))
      have eX : kpP c = ⟨(kyA c).1, pk0, lf0, 0, [], [], (kyV c).1⟩ := by
       unfold kpP; simp only; rw [if_neg (by omega)]
      obtain ⟨hd1, hd2⟩ := ky_doc c
      have hok : kpOk c = false := by
       have hh := kp_b (prOk ⟨(kyA c).1, pk0, lf0, 0, [], [], (kyV c).1⟩) (prB ⟨(kyA c).1, pk0, lf0, 0, [], [], (kyV c).1⟩) c
       rw [show (decide ((bif prOk ⟨(kyA c).1, pk0, lf0, 0, [], [], (kyV c).1⟩ then (0 : Int) else 1) ≠ 0) || decide (¬ (bif prOk ⟨(kyA c).1, pk0, lf0, 0, [], [], (kyV c).1⟩ then prB ⟨(kyA c).1, pk0, lf0, 0, [], [], (kyV c).1⟩ else []) = c)) = true from by assumption] at hh
       unfold kpOk; rw [eX]; cases hq : (prOk ⟨(kyA c).1, pk0, lf0, 0, [], [], (kyV c).1⟩ && decide (prB ⟨(kyA c).1, pk0, lf0, 0, [], [], (kyV c).1⟩ = c)) <;> rw [hq] at hh <;> first | rfl | (cases hh; done)
      unfold kgR kgE; rw [hd1, hok]
      exact ⟨_, _, _, _, _, _, _, _, _, _, _, _, _, _, _, rfl, own_nil _ _ _ _, own_nil _ _ _ _, own_nil _ _ _ _, own_nil _ _ _ _, own_nil _ _ _ _, own_nil _ _ _ _, own_nil _ _ _ _, own_nil _ _ _ _, own_nil _ _ _ _, own_nil _ _ _ _, own_nil _ _ _ _, own_nil _ _ _ _, own_nil _ _ _ _, own_nil _ _ _ _, own_nil _ _ _ _, hB⟩
     ·
      have hd10 := hc9
      try (simp only [Bool.and_eq_true, Bool.or_eq_true, decide_eq_true_eq, Bool.and_eq_false_iff, Bool.or_eq_false_iff, decide_eq_false_iff_not, Bool.not_eq_true', Bool.not_eq_false', Bool.not_eq_true, Bool.not_eq_false, ne_eq, Decidable.not_not, decide_true, decide_false, Bool.true_and, Bool.false_and, Bool.or_false, Bool.false_or, not_true_eq_false, false_or, or_false, true_and, and_true, not_false_eq_true, reduceCtorEq] at hd10)
      refine tw_skip (tw_seq (tw_region (ow_g (g_ldab (cs' := [_, _, _, _, _, _, _, _, _, _, _, _, _, _, _, _, _, _, _]) ag34 ty34 rfl hb17 rfl rfl) rfl ?_)))
      refine ow_d0 (d_sta ty34 rfl rfl rfl (by simp only [List.forall_mem_cons]; exact ⟨rfl, rfl, rfl, rfl, rfl, rfl, rfl, rfl, rfl, rfl, rfl, rfl, rfl, rfl, rfl, rfl, rfl, rfl, (Own.rd o9).one, fun v hv => by cases hv⟩) hb1 rfl) ?_
      rintro _ w34 ⟨hb19, k27, z19⟩
      replace o9 := o9.keep k27 (fun x hx hm => sb_b1_o9 x hx (List.mem_singleton.1 hm))
      replace hb17 := hb17.keep k27 (fun hm => absurd (List.mem_singleton.1 hm) (Ne.symm ne_b1_b2))
      replace o10 := o10.keep k27 (fun x hx hm => sb_b1_o10 x hx (List.mem_singleton.1 hm))
      replace hB := hB.new k27 (fun x hx => .inl ((List.mem_singleton.1 hx) ▸ ge_b1))
      clear z19
      replace hb19 : Bk w34 b1 _ [.int .i64 (kyA c).1, .slice none 0 0, .slice none 0 0, .slice none 0 0, .slice none 0 0, .int .i64 0, .slice none 0 0, .slice none 0 0, .slice none 0 0, .slice none 0 0, .slice none 0 0, .slice none 0 0, .int .i64 0, .slice none 0 0, .slice none 0 0, .int .i64 0, .slice none 0 0, .slice none 0 0, v5] := hb19
      refine ow_g (g_as rfl) rfl (ow_nil (tw_retct hfin Try.results9 rfl (run_loadAgg ag34 ty34 hb19 rfl) rfl ?_))
      have eX : kpP c = ⟨(kyA c).1, pk0, lf0, 0, [], [], (kyV c).1⟩ := by
       unfold kpP; simp only; rw [if_neg (by omega)]
      obtain ⟨hd1, hd2⟩ := ky_doc c
      have hok : kpOk c = true := by
       have hh := kp_b (prOk ⟨(kyA c).1, pk0, lf0, 0, [], [], (kyV c).1⟩) (prB ⟨(kyA c).1, pk0, lf0, 0, [], [], (kyV c).1⟩) c
       rw [show (decide ((bif prOk ⟨(kyA c).1, pk0, lf0, 0, [], [], (kyV c).1⟩ then (0 : Int) else 1) ≠ 0) || decide (¬ (bif prOk ⟨(kyA c).1, pk0, lf0, 0, [], [], (kyV c).1⟩ then prB ⟨(kyA c).1, pk0, lf0, 0, [], [], (kyV c).1⟩ else []) = c)) = false from by assumption] at hh
       unfold kpOk; rw [eX]; cases hq : (prOk ⟨(kyA c).1, pk0, lf0, 0, [], [], (kyV c).1⟩ && decide (prB ⟨(kyA c).1, pk0, lf0, 0, [], [], (kyV c).1⟩ = c)) <;> rw [hq] at hh <;> first | rfl | (cases hh; done)
      rw [show kgR c = ⟨(kyA c).1, pk0, lf0, 0, [], [], (kyV c).1⟩ from by unfold kgR; rw [hd1, hok, cond_true, ← hd2 hok]; exact eX, show kgE c = 0 from by unfold kgE; rw [hd1, hok]; rfl]
      exact ⟨_, _, _, _, _, _, _, _, _, _, _, _, _, _, _, rfl, own_nil _ _ _ _, own_nil _ _ _ _, own_nil _ _ _ _, own_nil _ _ _ _, own_nil _ _ _ _, own_nil _ _ _ _, own_nil _ _ _ _, own_nil _ _ _ _, own_nil _ _ _ _, own_nil _ _ _ _, own_nil _ _ _ _, own_nil _ _ _ _, own_nil _ _ _ _, own_nil _ _ _ _, o9.lo gw_o9, hB⟩
end Go.Proofs.Ytonchmcppekldaa.W
namespace Go.Proofs.Ytonchmcppekldaa.W
open Go Go.Eng Go.Byt
set_option linter.unusedVariables false
set_option linter.unusedSimpArgs false
set_option maxRecDepth 100000 in
set_option maxHeartbeats 1000000 in
theorem needs1_any (w : World) : Rets Try.prog 91 [.agg [.int .i64 0, .int .i64 1, .slice none 0 0, .slice none 0 0, .slice none 0 0, .slice none 0 0, .int .i64 0, .slice none 0 0, .slice none 0 0, .slice none 0 0, .slice none 0 0, .slice none 0 0, .slice none 0 0, .int .i64 0, .slice none 0 0, .slice none 0 0, .int .i64 0, .slice none 0 0, .slice none 0 0, .slice none 0 0].toArray] w (fun r w' => r = .bool false ∧ Keep [] w w') := by
 have hB : Keep [] w w := Keep.refl _ _
 refine rets_of_tw Try.func91 rfl (by decide) Try.ntmps91 rfl (fun fin _ hfin => ?_)
 refine tw_seq (tw_region (ow_d (d_box (cs := [.int .i64 0, .int .i64 1, .slice none 0 0, .slice none 0 0, .slice none 0 0, .slice none 0 0, .int .i64 0, .slice none 0 0, .slice none 0 0, .slice none 0 0, .slice none 0 0, .slice none 0 0, .slice none 0 0, .int .i64 0, .slice none 0 0, .slice none 0 0, .int .i64 0, .slice none 0 0, .slice none 0 0, .slice none 0 0]) rfl rfl) rfl ?_))
 rintro _ w1 ⟨b1, rfl, eb1, hb1, k1, z1⟩
 have ge_b1 : w.heap.size ≤ b1 := by have := hB.size; omega
 replace hB := hB.trans k1
 clear eb1 z1
 refine ow_g (g_as rfl) rfl (ow_nil (tw_seq (tw_region (ow_g (g_fa Try.underlying96 rfl ty34 (by decide) rfl) rfl ?_))))
 refine ow_g (g_fa Try.underlying34 rfl ty3 (by decide) rfl) rfl ?_
 refine ow_g (g_ldb sc3 rfl hb1 rfl) rfl ?_
 refine ow_g (g_as rfl) rfl (ow_nil (tw_seq (tw_region (ow_g (g_mv rfl) rfl (ow_g (g_eq rfl rfl) rfl ?_)))))
 refine ow_g (g_mv rfl) rfl (ow_grp 9 false rfl (fun c1 hgc1 => ?_))
 refine ow_gg [(3, _)] (grd1 rfl rfl rfl hgc1) ⟨und0 rfl, trivial⟩ (fun hw1 => g_mv rfl) rfl ?_
 refine ow_gg [(10, _)] (grd1 rfl rfl rfl hgc1) ⟨und1 rfl, trivial⟩ (fun hw2 => g_eq rfl rfl) rfl ?_
 refine ow_g (g_por rfl rfl hgc1) rfl ?_
 refine ow_g (g_mv rfl) rfl (ow_grp 13 false rfl (fun c2 hgc2 => ?_))
 refine ow_gg [(3, _)] (grd1 rfl rfl rfl hgc2) ⟨und0 rfl, trivial⟩ (fun hw3 => g_mv rfl) rfl ?_
 refine ow_gg [(14, _)] (grd1 rfl rfl rfl hgc2) ⟨und1 rfl, trivial⟩ (fun hw4 => g_eq rfl rfl) rfl ?_
 refine ow_g (g_por rfl rfl hgc2) rfl ?_
 refine ow_g (g_as rfl) rfl (ow_nil (tw_keep [(2, _)] ⟨rfl, trivial⟩ ?_))
 refine tw_ret1 hfin Try.results91 rfl ?_
 exact ⟨rfl, hB⟩
set_option maxRecDepth 100000 in
set_option maxHeartbeats 1000000 in
theorem kidx_any (v : Value) (w : World) (h : Rd w 20 v 1 [.int .i64 0, .int .i64 1, .slice none 0 0, .slice none 0 0, .slice none 0 0, .slice none 0 0, .int .i64 0, .slice none 0 0, .slice none 0 0, .slice none 0 0, .slice none 0 0, .slice none 0 0, .slice none 0 0, .int .i64 0, .slice none 0 0, .slice none 0 0, .int .i64 0, .slice none 0 0, .slice none 0 0, .slice none 0 0]) : Rets Try.prog 102 [v, .func (.func 91) #[] #[]] w (fun r w' => r = .int .i64 (-1) ∧ Keep [] w w') := by
 have hB : Keep [] w w := Keep.refl _ _
 refine rets_of_tw Try.func102 rfl (by decide) Try.ntmps102 rfl (fun fin _ hfin => ?_)
 refine tw_seq (tw_region (ow_g (g_as rfl) rfl (ow_nil (tw_seq (tw_seq (tw_region ?_))))))
 refine ow_g (g_mv rfl) rfl (ow_g (g_len Try.underlying97 rfl h) rfl ?_)
 refine ow_g (g_mv rfl) rfl (ow_nil (tw_block (tw_unroll 2 ?_)))
 refine tw_seq (tw_region (ow_g (g_lt rfl rfl) rfl ?_))
 refine ow_nil (tw_seq (tw_ifT rfl (by decide) ?_))
 refine tw_skip (tw_seq (tw_block (tw_seq (tw_region (ow_g (g_mv rfl) rfl (ow_g (g_as rfl) rfl ?_))))))
 refine ow_nil (tw_seq (tw_region (ow_g (g_mv rfl) rfl (ow_g (g_mv rfl) rfl (ow_g (g_mv rfl) rfl (ow_g (g_ix Try.underlying97 ty96 rfl h rfl (by decide)) rfl ?_))))))
 refine ow_g (g_ldae (cs' := [.int .i64 0, .int .i64 1, .slice none 0 0, .slice none 0 0, .slice none 0 0, .slice none 0 0, .int .i64 0, .slice none 0 0, .slice none 0 0, .slice none 0 0, .slice none 0 0, .slice none 0 0, .slice none 0 0, .int .i64 0, .slice none 0 0, .slice none 0 0, .int .i64 0, .slice none 0 0, .slice none 0 0, .slice none 0 0]) ag96 ty96 rfl h rfl rfl (by decide)) rfl ?_
 refine ow_d (d_callv rfl rfl (needs1_any _)) rfl ?_
 rintro _ w1 ⟨rfl, k1⟩
 replace hB := hB.trans k1
 refine ow_nil (tw_condF rfl (rfl) ?_)
 refine tw_skip (tw_b (tw_region (ow_g (g_fold (j := 1) (g_addw rfl rfl) (by decide)) rfl ?_)))
 refine ow_g (g_mv rfl) rfl (ow_nil (tw_keep [(0, _), (1, _), (7, _), (8, _)] ⟨rfl, rfl, rfl, rfl, trivial⟩ ?_))
 refine tw_lp (tw_seq (tw_region (ow_g (g_lt rfl rfl) rfl ?_)))
 refine ow_nil (tw_seq (tw_ifF rfl (by decide) ?_))
 refine tw_exit rfl ?_
 refine tw_seq (tw_region (ow_g (g_as rfl) rfl (ow_nil (tw_ret1 hfin Try.results102 rfl ?_))))
 exact ⟨rfl, hB⟩
set_option maxRecDepth 100000 in
set_option maxHeartbeats 1000000 in
theorem kcont_any (v : Value) (w : World) (h : Rd w 20 v 1 [.int .i64 0, .int .i64 1, .slice none 0 0, .slice none 0 0, .slice none 0 0, .slice none 0 0, .int .i64 0, .slice none 0 0, .slice none 0 0, .slice none 0 0, .slice none 0 0, .slice none 0 0, .slice none 0 0, .int .i64 0, .slice none 0 0, .slice none 0 0, .int .i64 0, .slice none 0 0, .slice none 0 0, .slice none 0 0]) : Rets Try.prog 90 [v, .func (.func 91) #[] #[]] w (fun r w' => r = .bool false ∧ Keep [] w w') := by
 have hB : Keep [] w w := Keep.refl _ _
 refine rets_of_tw Try.func90 rfl (by decide) Try.ntmps90 rfl (fun fin _ hfin => ?_)
 refine tw_seq (tw_region (ow_g (g_as rfl) rfl (ow_nil (tw_seq (tw_region (ow_g (g_mv rfl) rfl ?_))))))
 refine ow_g (g_mv rfl) rfl (ow_d (d_call (vs := [_, _]) rfl (kidx_any _ _ (h.keep0 hB))) rfl ?_)
 rintro _ w1 ⟨rfl, k1⟩
 replace hB := hB.trans k1
 refine ow_g (g_ge rfl rfl) rfl ?_
 refine ow_g (g_as rfl) rfl (ow_nil (tw_ret1 hfin Try.results90 rfl ?_))
 exact ⟨rfl, hB⟩
set_option maxRecDepth 100000 in
set_option maxHeartbeats 1000000 in
theorem needsA_any (v : Value) (w : World) (h : Rd w 20 v 1 [.int .i64 0, .int .i64 1, .slice none 0 0, .slice none 0 0, .slice none 0 0, .slice none 0 0, .int .i64 0, .slice none 0 0, .slice none 0 0, .slice none 0 0, .slice none 0 0, .slice none 0 0, .slice none 0 0, .int .i64 0, .slice none 0 0, .slice none 0 0, .int .i64 0, .slice none 0 0, .slice none 0 0, .slice none 0 0]) : Rets Try.prog 50 [v] w (fun r w' => r = .bool false ∧ Keep [] w w') := by
 have hB : Keep [] w w := Keep.refl _ _
 refine rets_of_tw Try.func50 rfl (by decide) Try.ntmps50 rfl (fun fin _ hfin => ?_)
 refine tw_seq (tw_region (ow_g (g_as rfl) rfl (ow_nil (tw_seq (tw_region (ow_g (g_mv rfl) rfl ?_))))))
 refine ow_g (g_len Try.underlying97 rfl h) rfl ?_
 refine ow_g (g_eq rfl rfl) rfl ?_
 refine ow_g (g_mv rfl) rfl (ow_gy (grdT rfl rfl rfl (decide_eq_false (by decide))) (g_mv rfl) rfl ?_)
 refine ow_dy (grdT rfl rfl rfl (decide_eq_false (by decide))) (d_call (vs := [_, _]) rfl (kcont_any _ _ (h.keep0 hB))) rfl ?_
 rintro _ w1 ⟨rfl, k1⟩
 replace hB := hB.trans k1
 refine ow_g (g_pickF rfl (decide_eq_false (by decide)) rfl) rfl ?_
 refine ow_g (g_as rfl) rfl (ow_nil (tw_ret1 hfin Try.results50 rfl ?_))
 exact ⟨rfl, hB⟩
set_option maxRecDepth 100000 in
set_option maxHeartbeats 1000000 in
theorem needs0_any (w : World) : Rets Try.prog 50 [.slice none 0 0] w (fun r w' => r = .bool true ∧ Keep [] w w') := by
 have hB : Keep [] w w := Keep.refl _ _
 refine rets_of_tw Try.func50 rfl (by decide) Try.ntmps50 rfl (fun fin _ hfin => ?_)
 refine tw_seq (tw_region (ow_g (g_as rfl) rfl (ow_nil (tw_seq (tw_region (ow_g (g_mv rfl) rfl ?_))))))
 refine ow_g (g_len Try.underlying97 rfl (Rd.nil _ 20)) rfl ?_
 refine ow_g (g_eq rfl rfl) rfl ?_
 refine ow_g (g_mv rfl) rfl (ow_grp 6 false rfl (fun c1 hgc1 => ?_))
 refine ow_gg (v := .slice none 0 0) [] (grd1 rfl rfl rfl hgc1) trivial (fun hw => absurd hw (by rw [hgc1]; decide)) rfl ?_
 refine ow_gg (v := .bool false) [] (grd1 rfl rfl rfl hgc1) trivial (fun hw => absurd hw (by rw [hgc1]; decide)) rfl ?_
 refine ow_g (g_por rfl rfl hgc1) rfl ?_
 refine ow_g (g_as rfl) rfl (ow_nil (tw_ret1 hfin Try.results50 rfl ?_))
 exact ⟨rfl, hB⟩
set_option maxRecDepth 100000 in
set_option maxHeartbeats 1000000 in
theorem knum_any (e : Int) (w : World) : Rets Try.prog 11 [.int .i64 e] w (fun r w' => r = .int .i64 e ∧ w = w') := by
 refine rets_of_tw Try.func11 rfl (by decide) Try.ntmps11 rfl (fun fin _ hfin => ?_)
 refine tw_seq (tw_region (ow_g (g_as rfl) rfl (ow_nil (tw_seq (tw_region (ow_g (g_mv rfl) rfl ?_))))))
 refine ow_g (g_as rfl) rfl (ow_nil (tw_ret1 hfin Try.results11 rfl ?_))
 exact ⟨rfl, rfl⟩
theorem kput0_any (w : World) : Rets Try.prog 7 [.agg [.int .i64 3, .slice none 0 0, .slice none 0 0, .slice none 0 0, .slice none 0 0, .int .i64 0, .slice none 0 0, .slice none 0 0, .slice none 0 0, .slice none 0 0, .slice none 0 0, .slice none 0 0, .int .i64 0, .slice none 0 0, .slice none 0 0, .int .i64 5, .slice none 0 0, .slice none 0 0, .slice none 0 0].toArray] w (fun r w' => ∃ u, r = .tuple #[u, .int .i64 0] ∧ OwnB w' w.heap.size u [0, 3, 0, 0, 0, 5] ∧ Keep [] w w') :=
  kput_any _ _ _ _ _ _ _ _ _ _ _ _ _ _ _ ⟨3, pk0, lf0, 5, [], [], []⟩ _ (show RdB _ _ [] from Rd.nil _ _) (show RdB _ _ [] from Rd.nil _ _) (show RdB _ _ [] from Rd.nil _ _) (show RdB _ _ [] from Rd.nil _ _) (show RdB _ _ [] from Rd.nil _ _) (show RdB _ _ [] from Rd.nil _ _) (show RdB _ _ [] from Rd.nil _ _) (show RdB _ _ [] from Rd.nil _ _) (show RdB _ _ [] from Rd.nil _ _) (show RdB _ _ [] from Rd.nil _ _) (show RdB _ _ [] from Rd.nil _ _) (show RdB _ _ [] from Rd.nil _ _) (show RdB _ _ [] from Rd.nil _ _) (show RdB _ _ [] from Rd.nil _ _) (show RdB _ _ [] from Rd.nil _ _) (Nat.zero_le _) (Nat.zero_le _) (Nat.zero_le _) (Nat.zero_le _) (Nat.zero_le _) (Nat.zero_le _) (Nat.zero_le _) (Nat.zero_le _) (Nat.zero_le _) (Nat.zero_le _) (Nat.zero_le _) (Nat.zero_le _) (Nat.zero_le _) (Nat.zero_le _) (Nat.zero_le _)
theorem kget0_any (w : World) : Rets Try.prog 9 [.slice none 0 0] w (fun r w' => ∃ i e s n h g gg e2 s2 n2 h2 g2 y1 y2 y3, r = .tuple #[.agg [.int .i64 pr0.kind, i, e, s, n, .int .i64 pr0.pk.leaf.src, h, g, gg, e2, s2, n2, .int .i64 pr0.lf.src, h2, g2, .int .i64 pr0.ix, y1, y2, y3].toArray, .int .i64 21] ∧ OwnB w' w.heap.size i pr0.pk.init ∧ OwnB w' w.heap.size e pr0.pk.leaf.enc ∧ OwnB w' w.heap.size s pr0.pk.leaf.sig ∧ OwnB w' w.heap.size n pr0.pk.leaf.name ∧ OwnB w' w.heap.size h pr0.pk.leaf.hash ∧ OwnB w' w.heap.size g pr0.pk.leaf.sg ∧ OwnB w' w.heap.size gg pr0.pk.sg ∧ OwnB w' w.heap.size e2 pr0.lf.enc ∧ OwnB w' w.heap.size s2 pr0.lf.sig ∧ OwnB w' w.heap.size n2 pr0.lf.name ∧ OwnB w' w.heap.size h2 pr0.lf.hash ∧ OwnB w' w.heap.size g2 pr0.lf.sg ∧ OwnB w' w.heap.size y1 pr0.psk ∧ OwnB w' w.heap.size y2 pr0.nonce ∧ OwnB w' w.heap.size y3 pr0.enc ∧ Keep [] w w') :=
  kget_any _ [] _ (show RdB _ _ [] from Rd.nil _ _) (Nat.zero_le _)
set_option maxRecDepth 100000 in
set_option maxHeartbeats 1000000 in
theorem kknows_any (w : World) : Rets Try.prog 14 [] w (fun r w' => r = .bool true ∧ Keep [] w w') := by
 have hB : Keep [] w w := Keep.refl _ _
 refine rets_of_tw Try.func14 rfl (by decide) Try.ntmps14 rfl (fun fin _ hfin => ?_)
 refine tw_seq (tw_region (ow_g (g_as rfl) rfl (ow_nil (tw_seq (tw_region (ow_g (g_bld (idx := [0, 3]) (xs := [.const (.int .i64 (3)), .const (.int .i64 (5))]) (vs := [_, _]) (css := [[_], [_]]) (out := [_, _, _, _, _, _, _, _, _, _, _, _, _, _, _, _, _, _, _]) pl34 ty34 rfl rfl ⟨rfl, rfl, trivial⟩ rfl rfl) rfl ?_))))))
 refine ow_d (d_call (vs := [_]) rfl (kput0_any _)) rfl ?_
 rintro _ w1 ⟨u1, rfl, o1, k1⟩
 have gl_o1 := hB.size
 replace hB := hB.trans k1
 have u_o1 := o1.blk
 refine ow_g (g_mv rfl) rfl (ow_g (g_ext (vs := [_, _]) rfl rfl) rfl ?_)
 refine ow_g (g_ext (vs := [_, _]) rfl rfl) rfl ?_
 refine ow_g (g_as rfl) rfl (ow_g (g_as rfl) rfl (ow_nil (tw_seq (tw_region (ow_d (d_call (vs := [_]) rfl (kget0_any _)) rfl ?_)))))
 rintro _ w2 ⟨i1, e1, s1, n1, h1, g1, gg1, e21, s21, n21, h21, g21, y11, y21, y31, rfl, fi1, fe1, fs1, fn1, fh1, fg1, fgg1, fe21, fs21, fn21, fh21, fg21, fy11, fy21, fy31, k2⟩
 replace o1 := o1.keep0 k2
 replace hB := hB.trans k2
 refine ow_g (g_mv rfl) rfl (ow_g (g_ext (vs := [_, _]) rfl rfl) rfl ?_)
 refine ow_g (g_ext (vs := [_, _]) rfl rfl) rfl ?_
 refine ow_d (d_alloc ty34) rfl ?_
 rintro _ w3 ⟨b1, rfl, eb1, hb1, k3, z1⟩
 have ge_b1 : w.heap.size ≤ b1 := by have := hB.size; omega
 have sb_b1_o1 := fun x hx => (show x ≠ b1 from by have := (o1.blk x hx).2; omega)
 replace o1 := o1.keep0 k3
 replace hB := hB.trans k3
 clear eb1 z1
 refine ow_d0 (d_sta ty34 rfl rfl rfl (by simp only [List.forall_mem_cons]; exact ⟨rfl, fi1.rd.one, fe1.rd.one, fs1.rd.one, fn1.rd.one, rfl, fh1.rd.one, fg1.rd.one, fgg1.rd.one, fe21.rd.one, fs21.rd.one, fn21.rd.one, rfl, fh21.rd.one, fg21.rd.one, rfl, fy11.rd.one, fy21.rd.one, fy31.rd.one, fun v hv => by cases hv⟩) hb1 rfl) ?_
 rintro _ w4 ⟨hb2, k4, z2⟩
 replace o1 := o1.keep k4 (fun x hx hm => sb_b1_o1 x hx (List.mem_singleton.1 hm))
 replace hB := hB.new k4 (fun x hx => .inl ((List.mem_singleton.1 hx) ▸ ge_b1))
 clear z2
 replace hb2 : Bk w4 b1 _ [.int .i64 pr0.kind, i1, e1, s1, n1, .int .i64 pr0.pk.leaf.src, h1, g1, gg1, e21, s21, n21, .int .i64 pr0.lf.src, h21, g21, .int .i64 pr0.ix, y11, y21, y31] := hb2
 refine ow_g (g_as rfl) rfl (ow_nil (tw_keep [(1, _), (2, _), (4, _)] ⟨rfl, rfl, rfl, trivial⟩ ?_))
 refine tw_seq (tw_region (ow_g (g_mv rfl) rfl (ow_d (d_call (vs := [_]) rfl (knum_any _ _)) rfl ?_)))
 rintro _ _ ⟨rfl, rfl⟩
 refine ow_g (g_eq rfl rfl) rfl ?_
 refine ow_g (g_mv rfl) rfl (ow_gy (grdT rfl rfl rfl (decide_eq_true rfl)) (g_mv rfl) rfl ?_)
 refine ow_gy (grdT rfl rfl rfl (decide_eq_true rfl)) (g_str Try.underlying22 Try.underlying5 Try.underlying9 rfl o1.rd) rfl ?_
 refine ow_gy (grdT rfl rfl rfl (decide_eq_true rfl)) (g_eqs (a := [0, 3, 0, 0, 0, 5]) (b := [0, 3, 0, 0, 0, 5]) rfl rfl) rfl ?_
 refine ow_g (g_pickT rfl (decide_eq_true rfl) rfl) rfl ?_
 refine ow_g (g_mv rfl) rfl (ow_gy (grdT rfl rfl rfl (decide_eq_true rfl)) (g_mv rfl) rfl ?_)
 refine ow_dy (grdT rfl rfl rfl (decide_eq_true rfl)) (d_call (vs := [_]) rfl (knum_any _ _)) rfl ?_
 rintro _ _ ⟨rfl, rfl⟩
 refine ow_gy (grdT rfl rfl rfl (decide_eq_true rfl)) (g_eq rfl rfl) rfl ?_
 refine ow_g (g_pickT rfl (decide_eq_true rfl) rfl) rfl ?_
 refine ow_g (g_mv rfl) rfl (ow_dy (grdT rfl rfl rfl (decide_eq_true rfl)) (d_call (vs := [_]) rfl (needs0_any _)) rfl ?_)
 rintro _ w5 ⟨rfl, k5⟩
 replace o1 := o1.keep0 k5
 replace hB := hB.trans k5
 refine ow_g (g_pickT rfl (decide_eq_true rfl) rfl) rfl ?_
 refine ow_g (g_mv rfl) rfl (ow_gy (grdT rfl rfl rfl rfl) (g_bld (idx := [0]) (xs := [.const (.int .i64 (1))]) (vs := [_]) (css := [[_]]) (out := [_, _, _, _, _, _, _, _, _, _, _, _, _, _, _, _, _, _, _]) pl34 ty34 rfl rfl ⟨rfl, trivial⟩ rfl rfl) rfl ?_)
 refine ow_gy (grdT rfl rfl rfl rfl) (g_bld (idx := [1]) (xs := [.tmp 31]) (vs := [_]) (css := [[_, _, _, _, _, _, _, _, _, _, _, _, _, _, _, _, _, _, _]]) (out := [_, _, _, _, _, _, _, _, _, _, _, _, _, _, _, _, _, _, _, _]) pl96 ty96 rfl rfl ⟨rfl, trivial⟩ rfl rfl) rfl ?_
 refine ow_dy (grdT rfl rfl rfl rfl) (d_bs (m := 1) (xs := [.tmp 32]) (vs := [_]) Try.underlying97 ty96 (by decide) rfl rfl rfl (by first | (simp; done) | (intro v hv; rw [List.mem_singleton] at hv; subst hv; rfl)) (by decide)) rfl ?_
 rintro v1 w6 ⟨o2, nn1, lb1, k6, z3⟩
 have gl_o2 := hB.size
 replace o1 := o1.keep0 k6
 replace hB := hB.trans k6
 have u_o2 := o2.blk
 refine ow_dy (grdT rfl rfl rfl rfl) (d_call (vs := [_]) rfl (needsA_any _ _ (show Rd _ 20 _ 1 [.int .i64 0, .int .i64 1, .slice none 0 0, .slice none 0 0, .slice none 0 0, .slice none 0 0, .int .i64 0, .slice none 0 0, .slice none 0 0, .slice none 0 0, .slice none 0 0, .slice none 0 0, .slice none 0 0, .int .i64 0, .slice none 0 0, .slice none 0 0, .int .i64 0, .slice none 0 0, .slice none 0 0, .slice none 0 0] from o2.rd))) rfl ?_
 rintro _ w7 ⟨rfl, k7⟩
 replace o1 := o1.keep0 k7
 replace o2 := o2.keep0 k7
 replace hB := hB.trans k7
 refine ow_gy (grdT rfl rfl rfl rfl) (g_not rfl) rfl ?_
 refine ow_g (g_pickT rfl rfl rfl) rfl ?_
 refine ow_g (g_as rfl) rfl (ow_nil (tw_keep [(0, _)] ⟨rfl, trivial⟩ ?_))
 refine tw_ret1 hfin Try.results14 rfl ?_
 exact ⟨by first | rfl | decide, hB⟩
end Go.Proofs.Ytonchmcppekldaa.W
