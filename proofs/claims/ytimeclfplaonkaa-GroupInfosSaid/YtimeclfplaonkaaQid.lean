/- Contracts and laws, part 4 of 4: what each function of the program and of the reference computes, shown once. -/
import Derived.Test.YtimeclfplaonkaaQic
namespace Go.Proofs.Ytimeclfplaonkaa.W
open Go Go.Eng Go.Byt
set_option linter.unusedVariables false
set_option linter.unusedSimpArgs false
set_option maxRecDepth 100000 in
set_option maxHeartbeats 1000000 in
theorem rrnumA_any (p at_ : Nat) (bs : List UInt8) (bw : Value) (e size : Int) (w : World) (h : RdA w p bs bw at_ e) (hs : size = 1 ∨ size = 2 ∨ size = 4 ∨ size = 8) : Rets Try.prog 66 [.pointer (some ⟨p, 0, none⟩), .int .i64 size] w (fun v w' => ∃ r a2, r = rNum (bitsOf size) (bs.drop at_) e size ∧ v = .int .i64 r.1 ∧ RdA w' p bs bw a2 r.2.2 ∧ r.2.1 = bs.drop a2 ∧ Keep [p] w w') := by
 obtain ⟨hb, hr, hn, hal, hbl⟩ := h
 have hB : Keep [p] w w := Keep.refl _ _
 have hcap := hr.vcap
 have hdl : (bs.drop at_).length = bs.length - at_ := List.length_drop
 have hg0 : gb bs (at_ : Int) = (((bs.drop at_).getD 0 0).toNat : Int) := by unfold gb; rw [List.getD_eq_getElem?_getD, List.getD_eq_getElem?_getD, List.getElem?_drop, Int.toNat_natCast, Nat.add_zero]
 have hgr := gb_range bs (at_ : Int)
 have hsz : (decide (size = 1) || decide (size = 2) || decide (size = 4) || decide (size = 8)) = true := by rcases hs with rfl | rfl | rfl | rfl <;> decide
 have hbits : ¬ bitsOf size < 0 := by rcases hs with rfl | rfl | rfl | rfl <;> decide
 refine rets_of_tw Try.func66 rfl (by decide) Try.ntmps66 rfl (fun fin _ hfin => ?_)
 refine tw_seq (tw_region (ow_g (g_as rfl) rfl (ow_nil (tw_seq (tw_block (tw_seq ?_))))))
 refine tw_region (ow_g (g_mv rfl) rfl (ow_g (g_nilc rfl) rfl ?_))
 refine ow_g (g_fa Try.underlying112 rfl ty3 (by decide) rfl) rfl ?_
 refine ow_g (g_ldb sc3 rfl hb rfl) rfl ?_
 refine ow_g (g_ne rfl rfl) rfl ?_
 refine ow_g (g_as rfl) rfl (ow_nil (tw_if rfl (fun hc1 => ?_) (fun hc1 => ?_)))
 ·
  refine tw_seq (tw_region (ow_g (g_as rfl) rfl (ow_nil (tw_ret1 hfin Try.results66 rfl ?_))))
  refine ⟨(0, bs.drop at_, e), at_, ?_, rfl, ⟨hb, hr, hn, by omega, hbl⟩, rfl, hB⟩
  unfold rNum
  repeat (first | rw [if_pos ‹_›] | rw [if_neg ‹_›] | rw [if_pos (by omega)] | rw [if_neg (by omega)])
  all_goals first | rfl | (refine Prod.ext rfl (Prod.ext rfl ?_); show _ = _; dsimp only; omega)
 ·
  refine tw_seq (tw_region (ow_g (g_mv rfl) rfl (ow_d (d_call (vs := [_]) rfl (sized_any _ _)) rfl ?_)))
  rintro _ _ ⟨rfl, rfl⟩
  refine ow_g (g_not rfl) rfl ?_
  refine ow_g (g_as rfl) rfl (ow_nil (tw_condF rfl (by rw [hsz]; rfl) ?_))
  refine tw_seq (tw_region (ow_g (g_mv rfl) rfl (ow_d (d_call (vs := [_]) rfl (rleft_any _ _ _ _ (by exact ⟨bs, at_, bw, by assumption, by assumption, hn, hal, rfl, hbl⟩))) rfl ?_)))
  rintro _ w1 ⟨rfl, k1⟩
  have z_k1 := k1.size
  replace hb := hb.keep0 k1
  replace hr := hr.keep0 k1
  replace hB := hB.trans k1.weak
  refine ow_g (g_mv rfl) rfl (ow_g (g_lt rfl rfl) rfl ?_)
  refine ow_g (g_as rfl) rfl (ow_nil (tw_if rfl (fun hc2 => ?_) (fun hc2 => ?_)))
  ·
   refine tw_seq (tw_region (ow_g (g_mv rfl) rfl (ow_g (g_nilc rfl) rfl ?_)))
   refine ow_g (g_fa Try.underlying112 rfl ty3 (by decide) rfl) rfl ?_
   refine ow_d0 (d_st ty3 rfl rfl rfl hb rfl) ?_
   rintro _ w2 ⟨hb1, k2, z1⟩
   have z_k2 := k2.size
   replace hr := hr.keep k2 (fun x hx hm => Nat.ne_of_lt (hn x hx) (List.mem_singleton.1 hm))
   replace hB := hB.trans k2
   refine ow_nil (tw_seq (tw_region (ow_g (g_as rfl) rfl (ow_nil (tw_ret1 hfin Try.results66 rfl ?_)))))
   refine ⟨(0, bs.drop at_, 20), at_, ?_, rfl, ⟨hb1, hr, hn, by omega, hbl⟩, rfl, hB⟩
   unfold rNum
   repeat (first | rw [if_pos ‹_›] | rw [if_neg ‹_›] | rw [if_pos (by omega)] | rw [if_neg (by omega)])
   all_goals first | rfl | (refine Prod.ext rfl (Prod.ext rfl ?_); show _ = _; dsimp only; omega)
  ·
   refine tw_seq (tw_stillA mixed (by decide +kernel) (fun w3 k3 => ?_))
   have z_k3 := k3.size
   replace hb := hb.keep0 k3
   replace hr := hr.keep0 k3
   replace hB := hB.trans k3.weak
   refine sw_g (g_mv rfl) rfl (sw_g (g_eq rfl rfl) rfl ?_)
   refine sw_g (g_mv rfl) rfl (sw_grp 30 true rfl (fun c1 hgc1 => ?_))
   refine sw_gg [(0, _)] (grd1 rfl rfl rfl hgc1) ⟨und0 rfl, trivial⟩ (fun hw1 => g_mv rfl) rfl ?_
   refine sw_gg [(31, _)] (grd1 rfl rfl rfl hgc1) ⟨und1 rfl, trivial⟩ (fun hw2 => g_nilc rfl) rfl ?_
   refine sw_gg [(32, _)] (grd1 rfl rfl rfl hgc1) ⟨und1 rfl, trivial⟩ (fun hw3 => g_fa Try.underlying112 rfl ty23 (by decide) rfl) rfl ?_
   refine sw_gg [(33, _)] (grd1 rfl rfl rfl hgc1) ⟨und1 rfl, trivial⟩ (fun hw4 => g_ldb sc23 rfl hb rfl) rfl ?_
   refine sw_gg [(0, _)] (grd1 rfl rfl rfl hgc1) ⟨und0 rfl, trivial⟩ (fun hw5 => g_mv rfl) rfl ?_
   refine sw_gg [(35, _)] (grd1 rfl rfl rfl hgc1) ⟨und1 rfl, trivial⟩ (fun hw6 => g_nilc rfl) rfl ?_
   refine sw_gg [(36, _)] (grd1 rfl rfl rfl hgc1) ⟨und1 rfl, trivial⟩ (fun hw7 => g_fa Try.underlying112 rfl ty3 (by decide) rfl) rfl ?_
   refine sw_gg [(37, _)] (grd1 rfl rfl rfl hgc1) ⟨und1 rfl, trivial⟩ (fun hw8 => g_ldb sc3 rfl hb rfl) rfl ?_
   refine sw_gg [(34, _), (38, _)] (grd1 rfl rfl rfl hgc1) ⟨und1 rfl, und1 rfl, trivial⟩ (fun hw9 => g_ix Try.underlying23 ty5 rfl (by first | assumption | exact Own.rd ‹_› | exact Rd.keep0 ‹_› hB | exact Own.rd (Own.keep0 ‹_› hB)) rfl (by omega)) rfl ?_
   refine sw_gg [(39, _)] (grd1 rfl rfl rfl hgc1) ⟨und1 rfl, trivial⟩ (fun hw10 => g_ldB sc5 rfl (by first | assumption | exact Own.rd ‹_› | exact Rd.keep0 ‹_› hB | exact Own.rd (Own.keep0 ‹_› hB)) (by omega)) rfl ?_
   refine sw_gg [(40, _)] (grd1 rfl rfl rfl hgc1) ⟨und1 rfl, trivial⟩ (fun hw11 => g_ge rfl rfl) rfl ?_
   refine sw_g (g_pand rfl rfl hgc1) rfl ?_
   refine sw_g (g_as rfl) rfl (sw_nil ?_)
   refine ow_nil (tw_cond rfl (fun hc3 => ?_) (fun hc3 => ?_))
   ·
    have hd1 := hc3
    try (simp only [Bool.and_eq_true, Bool.or_eq_true, decide_eq_true_eq, Bool.and_eq_false_iff, Bool.or_eq_false_iff, decide_eq_false_iff_not, Bool.not_eq_true', Bool.not_eq_false', Bool.not_eq_true, Bool.not_eq_false, ne_eq, Decidable.not_not, decide_true, decide_false, Bool.true_and, Bool.false_and, Bool.or_false, Bool.false_or, not_true_eq_false, false_or, or_false, true_and, and_true, not_false_eq_true, reduceCtorEq] at hd1)
    refine tw_seq (tw_region (ow_g (g_mv rfl) rfl (ow_g (g_nilc rfl) rfl ?_)))
    refine ow_g (g_fa Try.underlying112 rfl ty3 (by decide) rfl) rfl ?_
    refine ow_d0 (d_st ty3 rfl rfl rfl hb rfl) ?_
    rintro _ w4 ⟨hb2, k4, z2⟩
    have z_k4 := k4.size
    replace hr := hr.keep k4 (fun x hx hm => Nat.ne_of_lt (hn x hx) (List.mem_singleton.1 hm))
    replace hB := hB.trans k4
    refine ow_nil (tw_seq (tw_region (ow_g (g_as rfl) rfl (ow_nil (tw_ret1 hfin Try.results66 rfl ?_)))))
    refine ⟨(0, bs.drop at_, 11), at_, ?_, rfl, ⟨hb2, hr, hn, by omega, hbl⟩, rfl, hB⟩
    unfold rNum
    repeat (first | rw [if_pos ‹_›] | rw [if_neg ‹_›] | rw [if_pos (by omega)] | rw [if_neg (by omega)])
    all_goals first | rfl | (refine Prod.ext rfl (Prod.ext rfl ?_); show _ = _; dsimp only; omega)
   ·
    have hd2 := hc3
    try (simp only [Bool.and_eq_true, Bool.or_eq_true, decide_eq_true_eq, Bool.and_eq_false_iff, Bool.or_eq_false_iff, decide_eq_false_iff_not, Bool.not_eq_true', Bool.not_eq_false', Bool.not_eq_true, Bool.not_eq_false, ne_eq, Decidable.not_not, decide_true, decide_false, Bool.true_and, Bool.false_and, Bool.or_false, Bool.false_or, not_true_eq_false, false_or, or_false, true_and, and_true, not_false_eq_true, reduceCtorEq] at hd2)
    refine tw_skip (tw_b (tw_seq (tw_region (ow_g (g_mv rfl) rfl (ow_g (g_mv rfl) rfl (ow_d (d_call (vs := [_, _]) rfl (rnum_any _ (bs.drop at_) e _ _ (by exact ⟨bs, at_, bw, by assumption, by assumption, hn, hal, rfl, hbl⟩) (by omega) (by omega))) rfl ?_))))))
    rintro _ w5 ⟨rfl, k5⟩
    have z_k5 := k5.size
    replace hb := hb.keep0 k5
    replace hr := hr.keep0 k5
    replace hB := hB.trans k5.weak
    refine ow_g (g_as rfl) rfl (ow_nil (tw_seq (tw_region (ow_g (g_mv rfl) rfl (ow_g (g_mv rfl) rfl (ow_g (g_nilc rfl) rfl ?_))))))
    refine ow_g (g_fa Try.underlying112 rfl ty3 (by decide) rfl) rfl ?_
    refine ow_g (g_ldb sc3 rfl hb rfl) rfl ?_
    refine ow_g (g_mv rfl) rfl (ow_g (g_add rfl rfl (by omega)) rfl ?_)
    refine ow_g (g_nilc rfl) rfl ?_
    refine ow_g (g_fa Try.underlying112 rfl ty3 (by decide) rfl) rfl ?_
    refine ow_d0 (d_st ty3 rfl rfl rfl hb rfl) ?_
    rintro _ w6 ⟨hb3, k6, z3⟩
    have z_k6 := k6.size
    replace hr := hr.keep k6 (fun x hx hm => Nat.ne_of_lt (hn x hx) (List.mem_singleton.1 hm))
    replace hB := hB.trans k6
    refine ow_nil (tw_seq (tw_region (ow_g (g_mv rfl) rfl (ow_g (g_as rfl) rfl (ow_nil (tw_ret1 hfin Try.results66 rfl ?_))))))
    rw [show ((at_ : Int) + size) = ((at_ + size.toNat : Nat) : Int) from by omega] at hb3
    refine ⟨((num ((bs.drop at_).take size.toNat)), (bs.drop at_).drop size.toNat, e), at_ + size.toNat, ?_, rfl, ⟨hb3, hr, hn, by omega, hbl⟩, List.drop_drop, hB⟩
    unfold rNum
    repeat (first | rw [if_pos ‹_›] | rw [if_neg ‹_›] | rw [if_pos (by omega)] | rw [if_neg (by omega)])
    all_goals first | rfl | (refine Prod.ext rfl (Prod.ext rfl ?_); show _ = _; dsimp only; omega)
theorem rrnumber_any (p : Nat) (rest : List UInt8) (e size : Int) (w : World) (h : RdR w p rest e) (hs : size = 1 ∨ size = 2 ∨ size = 4 ∨ size = 8) : Rets Try.prog 66 [.pointer (some ⟨p, 0, none⟩), .int .i64 size] w (fun v w' => ∃ r, r = rNum (bitsOf size) rest e size ∧ v = .int .i64 r.1 ∧ RdR w' p r.2.1 r.2.2 ∧ Keep [p] w w') := by
  obtain ⟨bs, bw, at_, rfl, h2⟩ := h.rdA
  refine (rrnumA_any p at_ bs bw e size w h2 hs).mono ?_
  rintro v w' ⟨r, a2, h1, h2, h3, h4, h5⟩
  exact ⟨r, h1, h2, h4 ▸ h3.rdR, h5⟩
end Go.Proofs.Ytimeclfplaonkaa.W
namespace Go.Proofs.Ytimeclfplaonkaa.W
open Go Go.Eng Go.Byt
set_option linter.unusedVariables false
set_option linter.unusedSimpArgs false
theorem rEnd_0 (r : List UInt8) (e : Int) : rEnd r e = 0 ↔ r = [] ∧ e = 0 := by
  unfold rEnd
  by_cases he : e = 0
  · subst he
    rw [if_neg (by decide)]
    by_cases hr : r = []
    · subst hr; simp
    · have : (0 : Int) < r.length := by have := List.length_pos_iff.2 hr; omega
      rw [if_pos this]; simp [hr]
  · rw [if_pos he]; simp [he]
set_option maxRecDepth 100000 in
set_option maxHeartbeats 1000000 in
theorem rgetc_any (v : Value) (b : List UInt8) (w : World) (hv : RdB w v b) (hbl : b.length ≤ 140737488351232) : Rets Try.prog 81 [v] w (fun r w' => ∃ g t x, r = .tuple #[.agg [g, .int .i64 (cgC b).ep, t, x].toArray, .int .i64 (cgE b)] ∧ OwnB w' w.heap.size g (cgC b).g ∧ OwnB w' w.heap.size t (cgC b).tr ∧ OwnB w' w.heap.size x (cgC b).tx ∧ Keep [] w w') := by
 have hB : Keep [] w w := Keep.refl _ _
 refine rets_of_tw Try.func81 rfl (by decide) Try.ntmps81 rfl (fun fin _ hfin => ?_)
 refine tw_seq (tw_region (ow_d (d_alloc ty81) rfl ?_))
 rintro _ w1 ⟨b1, rfl, eb1, hb1, k1, z1⟩
 have ge_b1 : w.heap.size ≤ b1 := by have := hB.size; omega
 replace hB := hB.trans k1
 clear eb1 z1
 refine ow_g (g_as rfl) rfl (ow_nil (tw_seq (tw_region (ow_g (g_mv rfl) rfl ?_))))
 have zb1 := hb1.lt; have hs8 := hB.size
 refine ow_d (d_call (vs := [_]) rfl (rnewL_any _ b _ (by first | assumption | exact Own.rd ‹_› | exact Rd.keep0 ‹_› hB | exact Own.rd (Own.keep0 ‹_› hB)) (by omega))) rfl ?_
 rintro _ w2 ⟨p1, rfl, rr, k2⟩
 replace hb1 := hb1.keep0 k2
 replace hB := hB.trans k2
 have gp1 := rr.1
 replace rr := rr.rdr
 refine ow_g (g_as rfl) rfl (ow_nil (tw_seq (tw_region (ow_g (g_mv rfl) rfl ?_))))
 have lv0 := rr.lt
 refine ow_d (d_call (vs := [_, _]) rfl (rrnumber_any p1 b 0 4 _ rr (by decide))) rfl ?_
 rintro _ w3 ⟨r0, hr0, rfl, rr, km1⟩
 rw [show bitsOf 4 = 32 from by decide] at hr0
 subst hr0
 have z_km1 := km1.size
 replace hb1 := hb1.keep km1 (fun hm => by have h9 := List.mem_singleton.1 hm; omega)
 replace hB := hB.new km1 (fun x hm => .inl (by have h9 := List.mem_singleton.1 hm; omega))
 refine ow_g (g_as rfl) rfl (ow_nil (tw_seq (tw_region (ow_g (g_mv rfl) rfl ?_))))
 have lv1 := rr.lt
 refine ow_d (d_call (vs := [_]) rfl (rvector_any p1 ((rNum 32 b 0 4).2.1) ((rNum 32 b 0 4).2.2) _ rr)) rfl ?_
 rintro v1 w4 ⟨_, rfl, o1, rr, km2⟩
 have gl_o1 := hB.size
 have sb_b1_o1 := fun x hx => (show x ≠ b1 from by have h1 := (o1.blk x hx).1; have h2 := hb1.lt; omega)
 have z_km2 := km2.size
 replace hb1 := hb1.keep km2 (fun hm => by have h9 := List.mem_singleton.1 hm; omega)
 replace hB := hB.new km2 (fun x hm => .inl (by have h9 := List.mem_singleton.1 hm; omega))
 refine ow_g (g_bld (idx := [0]) (xs := [.tmp 13]) (vs := [_]) (css := [[_]]) (out := [_, _, _, _]) pl81 ty81 rfl rfl ⟨Rd.cells (by first | assumption | exact Own.rd ‹_› | exact Rd.keep0 ‹_› hB | exact Own.rd (Own.keep0 ‹_› hB)), trivial⟩ rfl rfl) rfl ?_
 have lt6 := rr.lt
 refine ow_d (d_alloc ty81) rfl ?_
 rintro _ w5 ⟨b2, rfl, eb2, hb2, k3, z2⟩
 have zp6 : p1 < b2 := by omega
 have ge_b2 : w.heap.size ≤ b2 := by have := hB.size; omega
 have ne_b1_b2 : b1 ≠ b2 := by have := hb1.lt; omega
 have sb_b2_o1 := fun x hx => (show x ≠ b2 from by have := (o1.blk x hx).2; omega)
 replace hb1 := hb1.keep0 k3
 replace rr := rr.keep0 k3
 replace o1 := o1.keep0 k3
 replace hB := hB.trans k3
 clear eb2 z2
 refine ow_d0 (d_sta ty81 rfl rfl rfl (by simp only [List.forall_mem_cons]; refine ⟨(by first | rfl | exact Rd.one (by first | assumption | exact Own.rd ‹_› | exact Rd.keep0 ‹_› hB | exact Own.rd (Own.keep0 ‹_› hB))), (by first | rfl | exact Rd.one (by first | assumption | exact Own.rd ‹_› | exact Rd.keep0 ‹_› hB | exact Own.rd (Own.keep0 ‹_› hB))), (by first | rfl | exact Rd.one (by first | assumption | exact Own.rd ‹_› | exact Rd.keep0 ‹_› hB | exact Own.rd (Own.keep0 ‹_› hB))), (by first | rfl | exact Rd.one (by first | assumption | exact Own.rd ‹_› | exact Rd.keep0 ‹_› hB | exact Own.rd (Own.keep0 ‹_› hB))), fun v hv => by cases hv⟩) hb2 rfl) ?_
 rintro _ w6 ⟨hb3, k4, z3⟩
 replace hb1 := hb1.keep k4 (fun hm => absurd (List.mem_singleton.1 hm) ne_b1_b2)
 replace rr := rr.keep k4 (fun x hx hm => (fun x (hx : x ≤ p1) => (show x ≠ b2 from by omega)) x hx (List.mem_singleton.1 hm))
 replace o1 := o1.keep k4 (fun x hx hm => sb_b2_o1 x hx (List.mem_singleton.1 hm))
 replace hB := hB.new k4 (fun x hx => .inl ((List.mem_singleton.1 hx) ▸ ge_b2))
 clear z3
 replace hb3 : Bk w6 b2 _ [v1, .int .i64 0, .slice none 0 0, .slice none 0 0] := hb3
 refine ow_nil (tw_seq (tw_region (ow_g (g_mv rfl) rfl ?_)))
 have lv2 := rr.lt
 refine ow_d (d_call (vs := [_, _]) rfl (rrnumber_any p1 ((rVec ((rNum 32 b 0 4).2.1) ((rNum 32 b 0 4).2.2)).2.1) ((rVec ((rNum 32 b 0 4).2.1) ((rNum 32 b 0 4).2.2)).2.2) 8 _ rr (by decide))) rfl ?_
 rintro _ w7 ⟨r2, hr2, rfl, rr, km3⟩
 rw [show bitsOf 8 = 62 from by decide] at hr2
 subst hr2
 have z_km3 := km3.size
 replace hb1 := hb1.keep km3 (fun hm => by have h9 := List.mem_singleton.1 hm; omega)
 replace o1 := o1.keep km3 (fun x hx hm => by have h9 := List.mem_singleton.1 hm; have h8 := (o1.blk x hx).1; omega)
 replace hb3 := hb3.keep km3 (fun hm => by have h9 := List.mem_singleton.1 hm; omega)
 replace hB := hB.new km3 (fun x hm => .inl (by have h9 := List.mem_singleton.1 hm; omega))
 refine ow_g (g_faE 1 Try.underlying81 rfl ty3 (by decide) rfl rfl) rfl ?_
 refine ow_d0 (d_st ty3 rfl rfl rfl hb3 rfl) ?_
 rintro _ w8 ⟨hb4, k5, z4⟩
 replace hb1 := hb1.keep k5 (fun hm => absurd (List.mem_singleton.1 hm) ne_b1_b2)
 replace rr := rr.keep k5 (fun x hx hm => (fun x (hx : x ≤ p1) => (show x ≠ b2 from by omega)) x hx (List.mem_singleton.1 hm))
 replace o1 := o1.keep k5 (fun x hx hm => sb_b2_o1 x hx (List.mem_singleton.1 hm))
 replace hB := hB.new k5 (fun x hx => .inl ((List.mem_singleton.1 hx) ▸ ge_b2))
 clear z4
 replace hb4 : Bk w8 b2 _ [v1, .int .i64 (rNum 62 ((rVec ((rNum 32 b 0 4).2.1) ((rNum 32 b 0 4).2.2)).2.1) ((rVec ((rNum 32 b 0 4).2.1) ((rNum 32 b 0 4).2.2)).2.2) 8).1, .slice none 0 0, .slice none 0 0] := hb4
 refine ow_nil (tw_keep [(2, _), (4, _), (5, _), (6, _)] ⟨rfl, rfl, rfl, rfl, trivial⟩ ?_)
 refine tw_seq (tw_region (ow_g (g_mv rfl) rfl ?_))
 have lv3 := rr.lt
 refine ow_d (d_call (vs := [_]) rfl (rvector_any p1 ((rNum 62 ((rVec ((rNum 32 b 0 4).2.1) ((rNum 32 b 0 4).2.2)).2.1) ((rVec ((rNum 32 b 0 4).2.1) ((rNum 32 b 0 4).2.2)).2.2) 8).2.1) ((rNum 62 ((rVec ((rNum 32 b 0 4).2.1) ((rNum 32 b 0 4).2.2)).2.1) ((rVec ((rNum 32 b 0 4).2.1) ((rNum 32 b 0 4).2.2)).2.2) 8).2.2) _ rr)) rfl ?_
 rintro v2 w9 ⟨_, rfl, o2, rr, km4⟩
 have gl_o2 := hB.size
 have sb_b1_o2 := fun x hx => (show x ≠ b1 from by have h1 := (o2.blk x hx).1; have h2 := hb1.lt; omega)
 have sb_b2_o2 := fun x hx => (show x ≠ b2 from by have h1 := (o2.blk x hx).1; have h2 := hb4.lt; omega)
 have z_km4 := km4.size
 replace hb1 := hb1.keep km4 (fun hm => by have h9 := List.mem_singleton.1 hm; omega)
 replace o1 := o1.keep km4 (fun x hx hm => by have h9 := List.mem_singleton.1 hm; have h8 := (o1.blk x hx).1; omega)
 replace hb4 := hb4.keep km4 (fun hm => by have h9 := List.mem_singleton.1 hm; omega)
 replace hB := hB.new km4 (fun x hm => .inl (by have h9 := List.mem_singleton.1 hm; omega))
 refine ow_g (g_faE 2 Try.underlying81 rfl ty23 (by decide) rfl rfl) rfl ?_
 refine ow_d0 (d_st ty23 rfl rfl (Rd.one (by first | assumption | exact Own.rd ‹_› | exact Rd.keep0 ‹_› hB | exact Own.rd (Own.keep0 ‹_› hB))) hb4 rfl) ?_
 rintro _ w10 ⟨hb5, k6, z5⟩
 replace hb1 := hb1.keep k6 (fun hm => absurd (List.mem_singleton.1 hm) ne_b1_b2)
 replace rr := rr.keep k6 (fun x hx hm => (fun x (hx : x ≤ p1) => (show x ≠ b2 from by omega)) x hx (List.mem_singleton.1 hm))
 replace o1 := o1.keep k6 (fun x hx hm => sb_b2_o1 x hx (List.mem_singleton.1 hm))
 replace o2 := o2.keep k6 (fun x hx hm => sb_b2_o2 x hx (List.mem_singleton.1 hm))
 replace hB := hB.new k6 (fun x hx => .inl ((List.mem_singleton.1 hx) ▸ ge_b2))
 clear z5
 replace hb5 : Bk w10 b2 _ [v1, .int .i64 (rNum 62 ((rVec ((rNum 32 b 0 4).2.1) ((rNum 32 b 0 4).2.2)).2.1) ((rVec ((rNum 32 b 0 4).2.1) ((rNum 32 b 0 4).2.2)).2.2) 8).1, v2, .slice none 0 0] := hb5
 refine ow_nil (tw_seq (tw_region (ow_g (g_mv rfl) rfl ?_)))
 have lv4 := rr.lt
 refine ow_d (d_call (vs := [_]) rfl (rvector_any p1 ((rVec ((rNum 62 ((rVec ((rNum 32 b 0 4).2.1) ((rNum 32 b 0 4).2.2)).2.1) ((rVec ((rNum 32 b 0 4).2.1) ((rNum 32 b 0 4).2.2)).2.2) 8).2.1) ((rNum 62 ((rVec ((rNum 32 b 0 4).2.1) ((rNum 32 b 0 4).2.2)).2.1) ((rVec ((rNum 32 b 0 4).2.1) ((rNum 32 b 0 4).2.2)).2.2) 8).2.2)).2.1) ((rVec ((rNum 62 ((rVec ((rNum 32 b 0 4).2.1) ((rNum 32 b 0 4).2.2)).2.1) ((rVec ((rNum 32 b 0 4).2.1) ((rNum 32 b 0 4).2.2)).2.2) 8).2.1) ((rNum 62 ((rVec ((rNum 32 b 0 4).2.1) ((rNum 32 b 0 4).2.2)).2.1) ((rVec ((rNum 32 b 0 4).2.1) ((rNum 32 b 0 4).2.2)).2.2) 8).2.2)).2.2) _ rr)) rfl ?_
 rintro v3 w11 ⟨_, rfl, o3, rr, km5⟩
 have gl_o3 := hB.size
 have sb_b1_o3 := fun x hx => (show x ≠ b1 from by have h1 := (o3.blk x hx).1; have h2 := hb1.lt; omega)
 have sb_b2_o3 := fun x hx => (show x ≠ b2 from by have h1 := (o3.blk x hx).1; have h2 := hb5.lt; omega)
 have z_km5 := km5.size
 replace hb1 := hb1.keep km5 (fun hm => by have h9 := List.mem_singleton.1 hm; omega)
 replace o1 := o1.keep km5 (fun x hx hm => by have h9 := List.mem_singleton.1 hm; have h8 := (o1.blk x hx).1; omega)
 replace o2 := o2.keep km5 (fun x hx hm => by have h9 := List.mem_singleton.1 hm; have h8 := (o2.blk x hx).1; omega)
 replace hb5 := hb5.keep km5 (fun hm => by have h9 := List.mem_singleton.1 hm; omega)
 replace hB := hB.new km5 (fun x hm => .inl (by have h9 := List.mem_singleton.1 hm; omega))
 refine ow_g (g_faE 3 Try.underlying81 rfl ty23 (by decide) rfl rfl) rfl ?_
 refine ow_d0 (d_st ty23 rfl rfl (Rd.one (by first | assumption | exact Own.rd ‹_› | exact Rd.keep0 ‹_› hB | exact Own.rd (Own.keep0 ‹_› hB))) hb5 rfl) ?_
 rintro _ w12 ⟨hb6, k7, z6⟩
 replace hb1 := hb1.keep k7 (fun hm => absurd (List.mem_singleton.1 hm) ne_b1_b2)
 replace rr := rr.keep k7 (fun x hx hm => (fun x (hx : x ≤ p1) => (show x ≠ b2 from by omega)) x hx (List.mem_singleton.1 hm))
 replace o1 := o1.keep k7 (fun x hx hm => sb_b2_o1 x hx (List.mem_singleton.1 hm))
 replace o2 := o2.keep k7 (fun x hx hm => sb_b2_o2 x hx (List.mem_singleton.1 hm))
 replace o3 := o3.keep k7 (fun x hx hm => sb_b2_o3 x hx (List.mem_singleton.1 hm))
 replace hB := hB.new k7 (fun x hx => .inl ((List.mem_singleton.1 hx) ▸ ge_b2))
 clear z6
 replace hb6 : Bk w12 b2 _ [v1, .int .i64 (rNum 62 ((rVec ((rNum 32 b 0 4).2.1) ((rNum 32 b 0 4).2.2)).2.1) ((rVec ((rNum 32 b 0 4).2.1) ((rNum 32 b 0 4).2.2)).2.2) 8).1, v2, v3] := hb6
 refine ow_nil (tw_seq (tw_region (ow_g (g_mv rfl) rfl ?_)))
 have lv5 := rr.lt
 refine ow_d (d_call (vs := [_]) rfl (rvector_any p1 ((rVec ((rVec ((rNum 62 ((rVec ((rNum 32 b 0 4).2.1) ((rNum 32 b 0 4).2.2)).2.1) ((rVec ((rNum 32 b 0 4).2.1) ((rNum 32 b 0 4).2.2)).2.2) 8).2.1) ((rNum 62 ((rVec ((rNum 32 b 0 4).2.1) ((rNum 32 b 0 4).2.2)).2.1) ((rVec ((rNum 32 b 0 4).2.1) ((rNum 32 b 0 4).2.2)).2.2) 8).2.2)).2.1) ((rVec ((rNum 62 ((rVec ((rNum 32 b 0 4).2.1) ((rNum 32 b 0 4).2.2)).2.1) ((rVec ((rNum 32 b 0 4).2.1) ((rNum 32 b 0 4).2.2)).2.2) 8).2.1) ((rNum 62 ((rVec ((rNum 32 b 0 4).2.1) ((rNum 32 b 0 4).2.2)).2.1) ((rVec ((rNum 32 b 0 4).2.1) ((rNum 32 b 0 4).2.2)).2.2) 8).2.2)).2.2)).2.1) ((rVec ((rVec ((rNum 62 ((rVec ((rNum 32 b 0 4).2.1) ((rNum 32 b 0 4).2.2)).2.1) ((rVec ((rNum 32 b 0 4).2.1) ((rNum 32 b 0 4).2.2)).2.2) 8).2.1) ((rNum 62 ((rVec ((rNum 32 b 0 4).2.1) ((rNum 32 b 0 4).2.2)).2.1) ((rVec ((rNum 32 b 0 4).2.1) ((rNum 32 b 0 4).2.2)).2.2) 8).2.2)).2.1) ((rVec ((rNum 62 ((rVec ((rNum 32 b 0 4).2.1) ((rNum 32 b 0 4).2.2)).2.1) ((rVec ((rNum 32 b 0 4).2.1) ((rNum 32 b 0 4).2.2)).2.2) 8).2.1) ((rNum 62 ((rVec ((rNum 32 b 0 4).2.1) ((rNum 32 b 0 4).2.2)).2.1) ((rVec ((rNum 32 b 0 4).2.1) ((rNum 32 b 0 4).2.2)).2.2) 8).2.2)).2.2)).2.2) _ rr)) rfl ?_
 rintro v4 w13 ⟨_, rfl, o4, rr, km6⟩
 have gl_o4 := hB.size
 have sb_b1_o4 := fun x hx => (show x ≠ b1 from by have h1 := (o4.blk x hx).1; have h2 := hb1.lt; omega)
 have sb_b2_o4 := fun x hx => (show x ≠ b2 from by have h1 := (o4.blk x hx).1; have h2 := hb6.lt; omega)
 have z_km6 := km6.size
 replace hb1 := hb1.keep km6 (fun hm => by have h9 := List.mem_singleton.1 hm; omega)
 replace o1 := o1.keep km6 (fun x hx hm => by have h9 := List.mem_singleton.1 hm; have h8 := (o1.blk x hx).1; omega)
 replace o2 := o2.keep km6 (fun x hx hm => by have h9 := List.mem_singleton.1 hm; have h8 := (o2.blk x hx).1; omega)
 replace o3 := o3.keep km6 (fun x hx hm => by have h9 := List.mem_singleton.1 hm; have h8 := (o3.blk x hx).1; omega)
 replace hb6 := hb6.keep km6 (fun hm => by have h9 := List.mem_singleton.1 hm; omega)
 replace hB := hB.new km6 (fun x hm => .inl (by have h9 := List.mem_singleton.1 hm; omega))
 refine ow_g (g_as rfl) rfl (ow_nil (tw_seq (tw_seq (tw_region (ow_g (g_mv rfl) rfl (ow_d (d_call (vs := [_]) rfl (rrend_any _ _ _ _ rr)) rfl ?_))))))
 rintro _ w14 ⟨rfl, k8⟩
 replace hb1 := hb1.keep0 k8
 replace rr := rr.keep0 k8
 replace o1 := o1.keep0 k8
 replace o2 := o2.keep0 k8
 replace o3 := o3.keep0 k8
 replace hb6 := hb6.keep0 k8
 replace o4 := o4.keep0 k8
 replace hB := hB.trans k8
 refine ow_g (g_ne rfl rfl) rfl ?_
 refine ow_g (g_mv rfl) rfl (ow_grp 29 false rfl (fun c1 hgc1 => ?_))
 refine ow_gg [(5, _)] (grd1 rfl rfl rfl hgc1) ⟨und0 rfl, trivial⟩ (fun hw1 => g_mv rfl) rfl ?_
 refine ow_gg [(30, _)] (grd1 rfl rfl rfl hgc1) ⟨und1 rfl, trivial⟩ (fun hw2 => g_ne rfl rfl) rfl ?_
 refine ow_g (g_por rfl rfl hgc1) rfl ?_
 refine ow_g (g_mv rfl) rfl (ow_grp 33 false rfl (fun c2 hgc2 => ?_))
 refine ow_gg [(7, _)] (grd1 rfl rfl rfl hgc2) ⟨und0 rfl, trivial⟩ (fun hw3 => g_mv rfl) rfl ?_
 refine ow_gg [(34, _)] (grd1 rfl rfl rfl hgc2) ⟨und1 rfl, trivial⟩ (fun hw4 => g_len Try.underlying23 rfl (by first | assumption | exact Own.rd ‹_› | exact Rd.keep0 ‹_› hB | exact Own.rd (Own.keep0 ‹_› hB))) rfl ?_
 refine ow_gg [(35, _)] (grd1 rfl rfl rfl hgc2) ⟨und1 rfl, trivial⟩ (fun hw5 => g_ne rfl rfl) rfl ?_
 refine ow_g (g_por rfl rfl hgc2) rfl ?_
 refine ow_g (g_mv rfl) rfl (ow_grp 38 false rfl (fun c3 hgc3 => ?_))
 refine ow_gg [(6, _)] (grd1 rfl rfl rfl hgc3) ⟨und0 rfl, trivial⟩ (fun hw6 => g_ldab (cs' := [_, _, _, _]) ag81 ty81 rfl hb6 rfl rfl) rfl ?_
 refine ow_gdk [(39, _)] (grd1 rfl rfl rfl hgc3) ⟨und1 rfl, trivial⟩ (fun hw7 => d_call (vs := [_]) rfl (ctxright_any _ _ _ _ (ctxR b).2.1 _ o1.rd o2.rd o3.rd rfl)) rfl ?_
 rintro w16 k10
 replace hb1 := hb1.keep0 k10
 replace o1 := o1.keep0 k10
 replace o2 := o2.keep0 k10
 replace o3 := o3.keep0 k10
 replace hb6 := hb6.keep0 k10
 replace o4 := o4.keep0 k10
 replace hB := hB.trans k10
 refine ow_gg [(40, _)] (grd1 rfl rfl rfl hgc3) ⟨und1 rfl, trivial⟩ (fun hw8 => g_not rfl) rfl ?_
 refine ow_g (g_por rfl rfl hgc3) rfl ?_
 refine ow_nil (tw_keep [(2, _), (6, _), (42, _)] ⟨rfl, rfl, rfl, trivial⟩ ?_)
 refine tw_cond rfl (fun hc1 => ?_) (fun hc1 => ?_)
 ·
  have hd1 := hc1
  try (simp only [Bool.and_eq_true, Bool.or_eq_true, decide_eq_true_eq, Bool.and_eq_false_iff, Bool.or_eq_false_iff, decide_eq_false_iff_not, Bool.not_eq_true', Bool.not_eq_false', Bool.not_eq_true, Bool.not_eq_false, ne_eq, Decidable.not_not, decide_true, decide_false, Bool.true_and, Bool.false_and, Bool.or_false, Bool.false_or, not_true_eq_false, false_or, or_false, true_and, and_true, not_false_eq_true, reduceCtorEq] at hd1)
  refine tw_seq (tw_region (ow_g (g_bld (idx := []) (xs := []) (vs := []) (css := []) (out := [_, _, _, _]) pl81 ty81 rfl rfl trivial rfl rfl) rfl ?_))
  refine ow_d0 (d_sta ty81 rfl rfl rfl (by simp only [List.forall_mem_cons]; refine ⟨rfl, rfl, rfl, rfl, fun v hv => by cases hv⟩) hb1 rfl) ?_
  rintro _ w17 ⟨hb7, k11, z7⟩
  replace o1 := o1.keep k11 (fun x hx hm => sb_b1_o1 x hx (List.mem_singleton.1 hm))
  replace o2 := o2.keep k11 (fun x hx hm => sb_b1_o2 x hx (List.mem_singleton.1 hm))
  replace o3 := o3.keep k11 (fun x hx hm => sb_b1_o3 x hx (List.mem_singleton.1 hm))
  replace hb6 := hb6.keep k11 (fun hm => absurd (List.mem_singleton.1 hm) (Ne.symm ne_b1_b2))
  replace o4 := o4.keep k11 (fun x hx hm => sb_b1_o4 x hx (List.mem_singleton.1 hm))
  replace hB := hB.new k11 (fun x hx => .inl ((List.mem_singleton.1 hx) ▸ ge_b1))
  clear z7
  replace hb7 : Bk w17 b1 _ [.slice none 0 0, .int .i64 0, .slice none 0 0, .slice none 0 0] := hb7
  refine ow_g (g_as rfl) rfl (ow_nil (tw_retct hfin Try.results81 rfl (run_loadAgg ag81 ty81 ‹_› rfl) rfl ?_))
  have hgi := cgOk_iff b
  dsimp only at hgi
  rw [← rEnd_0] at hgi
  have hg : cgOk b = false := by
   rw [← Bool.not_eq_true, hgi]; rintro ⟨g1, g2, g3, g4⟩; unfold ctxR at g1 g2 g3 g4; dsimp only at g1 g2 g3 g4; simp_all [ctxR]
  exact ⟨_, _, _, by unfold cgE cgC; rw [hg]; rfl, by unfold cgC; rw [hg]; exact own_nil _ _ _ _, by unfold cgC; rw [hg]; exact own_nil _ _ _ _, by unfold cgC; rw [hg]; exact own_nil _ _ _ _, hB⟩
 ·
  have hd2 := hc1
  try (simp only [Bool.and_eq_true, Bool.or_eq_true, decide_eq_true_eq, Bool.and_eq_false_iff, Bool.or_eq_false_iff, decide_eq_false_iff_not, Bool.not_eq_true', Bool.not_eq_false', Bool.not_eq_true, Bool.not_eq_false, ne_eq, Decidable.not_not, decide_true, decide_false, Bool.true_and, Bool.false_and, Bool.or_false, Bool.false_or, not_true_eq_false, false_or, or_false, true_and, and_true, not_false_eq_true, reduceCtorEq] at hd2)
  refine tw_skip (tw_seq (tw_region (ow_g (g_ldab (cs' := [_, _, _, _]) ag81 ty81 rfl hb6 rfl rfl) rfl ?_)))
  refine ow_d0 (d_sta ty81 rfl rfl rfl (by simp only [List.forall_mem_cons]; refine ⟨(by first | rfl | exact Rd.one (by first | assumption | exact Own.rd ‹_› | exact Rd.keep0 ‹_› hB | exact Own.rd (Own.keep0 ‹_› hB))), (by first | rfl | exact Rd.one (by first | assumption | exact Own.rd ‹_› | exact Rd.keep0 ‹_› hB | exact Own.rd (Own.keep0 ‹_› hB))), (by first | rfl | exact Rd.one (by first | assumption | exact Own.rd ‹_› | exact Rd.keep0 ‹_› hB | exact Own.rd (Own.keep0 ‹_› hB))), (by first | rfl | exact Rd.one (by first | assumption | exact Own.rd ‹_› | exact Rd.keep0 ‹_› hB | exact Own.rd (Own.keep0 ‹_› hB))), fun v hv => by cases hv⟩) hb1 rfl) ?_
  rintro _ w18 ⟨hb8, k12, z8⟩
  replace o1 := o1.keep k12 (fun x hx hm => sb_b1_o1 x hx (List.mem_singleton.1 hm))
  replace o2 := o2.keep k12 (fun x hx hm => sb_b1_o2 x hx (List.mem_singleton.1 hm))
  replace o3 := o3.keep k12 (fun x hx hm => sb_b1_o3 x hx (List.mem_singleton.1 hm))
  replace hb6 := hb6.keep k12 (fun hm => absurd (List.mem_singleton.1 hm) (Ne.symm ne_b1_b2))
  replace o4 := o4.keep k12 (fun x hx hm => sb_b1_o4 x hx (List.mem_singleton.1 hm))
  replace hB := hB.new k12 (fun x hx => .inl ((List.mem_singleton.1 hx) ▸ ge_b1))
  clear z8
  replace hb8 : Bk w18 b1 _ [v1, .int .i64 (rNum 62 ((rVec ((rNum 32 b 0 4).2.1) ((rNum 32 b 0 4).2.2)).2.1) ((rVec ((rNum 32 b 0 4).2.1) ((rNum 32 b 0 4).2.2)).2.2) 8).1, v2, v3] := hb8
  refine ow_g (g_as rfl) rfl (ow_nil (tw_retct hfin Try.results81 rfl (run_loadAgg ag81 ty81 ‹_› rfl) rfl ?_))
  have hgi := cgOk_iff b
  dsimp only at hgi
  rw [← rEnd_0] at hgi
  have hg : cgOk b = true := by
   rw [hgi]; unfold ctxR; dsimp only; simp_all [ctxR]
  exact ⟨_, _, _, by unfold cgE cgC; rw [hg]; rfl, by unfold cgC; rw [hg]; exact o1.lo gl_o1, by unfold cgC; rw [hg]; exact o2.lo gl_o2, by unfold cgC; rw [hg]; exact o3.lo gl_o3, hB⟩
end Go.Proofs.Ytimeclfplaonkaa.W
namespace Go.Proofs.Ytimeclfplaonkaa.W
open Go Go.Eng Go.Byt
set_option linter.unusedVariables false
set_option linter.unusedSimpArgs false
set_option maxRecDepth 100000 in
set_option maxHeartbeats 1000000 in
theorem rinfo_any (g t x tr co ou sg : Value) (i : Inf) (w : World) (hg : RdB w g i.c.g) (ht : RdB w t i.c.tr) (hx : RdB w x i.c.tx) (h1 : RdB w tr i.tree) (h2 : RdB w co i.conf) (h3 : RdB w ou i.outer) (h4 : RdB w sg i.sig) : Rets Try.prog 77 [.agg [g, .int .i64 i.c.ep, t, x, tr, co, ou, .int .i64 i.signer, sg].toArray] w (fun r w' => r = .bool (infOk i) ∧ Keep [] w w') := by
 have hB : Keep [] w w := Keep.refl _ _
 refine rets_of_tw Try.func77 rfl (by decide) Try.ntmps77 rfl (fun fin _ hfin => ?_)
 refine tw_seq (tw_region (ow_d (d_box (cs := [g, .int .i64 i.c.ep, t, x, tr, co, ou, .int .i64 i.signer, sg]) rfl rfl) rfl ?_))
 rintro _ w1 ⟨b1, rfl, eb1, hb1, k1, z1⟩
 have ge_b1 : w.heap.size ≤ b1 := by have := hB.size; omega
 replace hB := hB.trans k1
 clear eb1 z1
 refine ow_g (g_as rfl) rfl (ow_nil (tw_seq (tw_region (ow_g (g_faE 0 Try.underlying83 rfl ty81 (by decide) rfl rfl) rfl ?_))))
 refine ow_g (g_ldab (cs' := [_, _, _, _]) ag81 ty81 rfl hb1 rfl rfl) rfl ?_
 refine ow_d (d_call (vs := [_]) rfl (rputc_any _ _ _ i.c _ (by first | assumption | exact Own.rd ‹_› | exact Rd.keep0 ‹_› hB | exact Own.rd (Own.keep0 ‹_› hB)) (by first | assumption | exact Own.rd ‹_› | exact Rd.keep0 ‹_› hB | exact Own.rd (Own.keep0 ‹_› hB)) (by first | assumption | exact Own.rd ‹_› | exact Rd.keep0 ‹_› hB | exact Own.rd (Own.keep0 ‹_› hB)))) rfl ?_
 rintro _ w2 ⟨u1, rfl, o1, k2⟩
 have gl_o1 := hB.size
 have sb_b1_o1 := fun x hx => (show x ≠ b1 from by have h1 := (o1.blk x hx).1; have h2 := hb1.lt; omega)
 replace hb1 := hb1.keep0 k2
 replace hB := hB.trans k2
 have u_o1 := o1.blk
 refine ow_g (g_mv rfl) rfl (ow_g (g_ext (vs := [_, _]) rfl rfl) rfl ?_)
 refine ow_g (g_ext (vs := [_, _]) rfl rfl) rfl ?_
 refine ow_g (g_as rfl) rfl (ow_g (g_as rfl) rfl (ow_nil (tw_seq (tw_region (ow_g (g_mv rfl) rfl (ow_g (g_eq rfl rfl) rfl ?_))))))
 refine ow_g (g_mv rfl) rfl (ow_grp 13 true rfl (fun c1 hgc1 => ?_))
 refine ow_gg [(1, _)] (grd1 rfl rfl rfl hgc1) ⟨und0 rfl, trivial⟩ (fun hw1 => g_faE 4 Try.underlying83 rfl ty23 (by decide) rfl rfl) rfl ?_
 refine ow_gg [(14, _)] (grd1 rfl rfl rfl hgc1) ⟨und1 rfl, trivial⟩ (fun hw2 => g_ldb sc23 rfl hb1 rfl) rfl ?_
 refine ow_gg [(15, _)] (grd1 rfl rfl rfl hgc1) ⟨und1 rfl, trivial⟩ (fun hw3 => g_len Try.underlying23 rfl (by first | assumption | exact Own.rd ‹_› | exact Rd.keep0 ‹_› hB | exact Own.rd (Own.keep0 ‹_› hB))) rfl ?_
 refine ow_gg [(16, _)] (grd1 rfl rfl rfl hgc1) ⟨und1 rfl, trivial⟩ (fun hw4 => g_le rfl rfl) rfl ?_
 refine ow_g (g_pand rfl rfl hgc1) rfl ?_
 refine ow_g (g_mv rfl) rfl (ow_grp 19 true rfl (fun c2 hgc2 => ?_))
 refine ow_gg [(1, _)] (grd1 rfl rfl rfl hgc2) ⟨und0 rfl, trivial⟩ (fun hw5 => g_faE 5 Try.underlying83 rfl ty23 (by decide) rfl rfl) rfl ?_
 refine ow_gg [(20, _)] (grd1 rfl rfl rfl hgc2) ⟨und1 rfl, trivial⟩ (fun hw6 => g_ldb sc23 rfl hb1 rfl) rfl ?_
 refine ow_gg [(21, _)] (grd1 rfl rfl rfl hgc2) ⟨und1 rfl, trivial⟩ (fun hw7 => g_len Try.underlying23 rfl (by first | assumption | exact Own.rd ‹_› | exact Rd.keep0 ‹_› hB | exact Own.rd (Own.keep0 ‹_› hB))) rfl ?_
 refine ow_gg [(22, _)] (grd1 rfl rfl rfl hgc2) ⟨und1 rfl, trivial⟩ (fun hw8 => g_eq rfl rfl) rfl ?_
 refine ow_g (g_pand rfl rfl hgc2) rfl ?_
 refine ow_g (g_mv rfl) rfl (ow_grp 25 true rfl (fun c3 hgc3 => ?_))
 refine ow_gg [(1, _)] (grd1 rfl rfl rfl hgc3) ⟨und0 rfl, trivial⟩ (fun hw9 => g_faE 6 Try.underlying83 rfl ty23 (by decide) rfl rfl) rfl ?_
 refine ow_gg [(26, _)] (grd1 rfl rfl rfl hgc3) ⟨und1 rfl, trivial⟩ (fun hw10 => g_ldb sc23 rfl hb1 rfl) rfl ?_
 refine ow_gg [(27, _)] (grd1 rfl rfl rfl hgc3) ⟨und1 rfl, trivial⟩ (fun hw11 => g_len Try.underlying23 rfl (by first | assumption | exact Own.rd ‹_› | exact Rd.keep0 ‹_› hB | exact Own.rd (Own.keep0 ‹_› hB))) rfl ?_
 refine ow_gg [(28, _)] (grd1 rfl rfl rfl hgc3) ⟨und1 rfl, trivial⟩ (fun hw12 => g_eq rfl rfl) rfl ?_
 refine ow_g (g_pand rfl rfl hgc3) rfl ?_
 refine ow_g (g_mv rfl) rfl (ow_grp 31 true rfl (fun c4 hgc4 => ?_))
 refine ow_gg [(1, _)] (grd1 rfl rfl rfl hgc4) ⟨und0 rfl, trivial⟩ (fun hw13 => g_faE 7 Try.underlying83 rfl ty3 (by decide) rfl rfl) rfl ?_
 refine ow_gg [(32, _)] (grd1 rfl rfl rfl hgc4) ⟨und1 rfl, trivial⟩ (fun hw14 => g_ldb sc3 rfl hb1 rfl) rfl ?_
 refine ow_gg [(33, _)] (grd1 rfl rfl rfl hgc4) ⟨und1 rfl, trivial⟩ (fun hw15 => g_ge rfl rfl) rfl ?_
 refine ow_g (g_pand rfl rfl hgc4) rfl ?_
 refine ow_g (g_mv rfl) rfl (ow_grp 36 true rfl (fun c5 hgc5 => ?_))
 refine ow_gg [(1, _)] (grd1 rfl rfl rfl hgc5) ⟨und0 rfl, trivial⟩ (fun hw16 => g_faE 7 Try.underlying83 rfl ty3 (by decide) rfl rfl) rfl ?_
 refine ow_gg [(37, _)] (grd1 rfl rfl rfl hgc5) ⟨und1 rfl, trivial⟩ (fun hw17 => g_ldb sc3 rfl hb1 rfl) rfl ?_
 refine ow_gg [(38, _)] (grd1 rfl rfl rfl hgc5) ⟨und1 rfl, trivial⟩ (fun hw18 => g_lt rfl rfl) rfl ?_
 refine ow_g (g_pand rfl rfl hgc5) rfl ?_
 refine ow_g (g_mv rfl) rfl (ow_grp 41 true rfl (fun c6 hgc6 => ?_))
 refine ow_gg [(1, _)] (grd1 rfl rfl rfl hgc6) ⟨und0 rfl, trivial⟩ (fun hw19 => g_faE 8 Try.underlying83 rfl ty23 (by decide) rfl rfl) rfl ?_
 refine ow_gg [(42, _)] (grd1 rfl rfl rfl hgc6) ⟨und1 rfl, trivial⟩ (fun hw20 => g_ldb sc23 rfl hb1 rfl) rfl ?_
 refine ow_gg [(43, _)] (grd1 rfl rfl rfl hgc6) ⟨und1 rfl, trivial⟩ (fun hw21 => g_len Try.underlying23 rfl (by first | assumption | exact Own.rd ‹_› | exact Rd.keep0 ‹_› hB | exact Own.rd (Own.keep0 ‹_› hB))) rfl ?_
 refine ow_gg [(44, _)] (grd1 rfl rfl rfl hgc6) ⟨und1 rfl, trivial⟩ (fun hw22 => g_eq rfl rfl) rfl ?_
 refine ow_g (g_pand rfl rfl hgc6) rfl ?_
 refine ow_g (g_as rfl) rfl (ow_nil (tw_keep [(2, _)] ⟨rfl, trivial⟩ ?_))
 refine tw_ret1 hfin Try.results77 rfl ?_
 refine ⟨congrArg Value.bool ?_, hB⟩
 have e0 : decide ((bif ctxOk i.c then (0 : Int) else 1) = 0) = ctxOk i.c := by cases ctxOk i.c <;> rfl
 have e1 : ∀ (n k : Nat), decide ((n : Int) ≤ (k : Int)) = decide (n ≤ k) := fun n k => by rw [decide_eq_decide]; omega
 have e2 : ∀ (n k : Nat), decide ((n : Int) = (k : Int)) = decide (n = k) := fun n k => by rw [decide_eq_decide]; omega
 unfold infOk
 rw [e0, ← e1 _ 60000, ← e2 _ 32, ← e2 _ 32, ← e2 _ 64]; rfl
end Go.Proofs.Ytimeclfplaonkaa.W
namespace Go.Proofs.Ytimeclfplaonkaa.W
open Go Go.Eng Go.Byt
set_option linter.unusedVariables false
set_option linter.unusedSimpArgs false
theorem joinB_4 {a b c d : List UInt8} (h1 : a.length ≤ 65536) (h2 : b.length ≤ 65536) (h3 : c.length ≤ 65536) (h4 : d.length ≤ 65536) : joinB [a, b, c, d] = vec a ++ (vec b ++ (vec c ++ vec d)) := by
  unfold joinB vec1B
  simp only [List.flatMap_cons, List.flatMap_nil, List.append_nil]; rw [if_pos h1, if_pos h2, if_pos h3, if_pos h4]
set_option maxRecDepth 100000 in
set_option maxHeartbeats 1000000 in
theorem rputinfo_any (g t x tr co ou sg : Value) (i : Inf) (w : World) (hg : RdB w g i.c.g) (ht : RdB w t i.c.tr) (hx : RdB w x i.c.tx) (h1 : RdB w tr i.tree) (h2 : RdB w co i.conf) (h3 : RdB w ou i.outer) (h4 : RdB w sg i.sig) : Rets Try.prog 33 [.agg [g, .int .i64 i.c.ep, t, x, tr, co, ou, .int .i64 i.signer, sg].toArray] w (fun v w' => ∃ u, v = .tuple #[u, .int .i64 (infE i)] ∧ OwnB w' w.heap.size u (infB i) ∧ Keep [] w w') := by
  have hB : Keep [] w w := Keep.refl _ _
  refine rets_of_tw Try.func33 rfl (by decide) Try.ntmps33 rfl (fun fin _ hfin => ?_)
  refine tw_seq ?_
  refine tw_region ?_
  refine ow_d (d_box (cs := [g, .int .i64 i.c.ep, t, x, tr, co, ou, .int .i64 i.signer, sg]) rfl rfl) rfl ?_
  rintro _ w1 ⟨b1, rfl, eb1, hb1, k1, z1⟩
  have ge_b1 : w.heap.size ≤ b1 := by have := hB.size; omega
  replace hB := hB.trans k1
  clear eb1 z1
  refine ow_g (g_as rfl) rfl ?_
  refine ow_g (g_as rfl) rfl ?_
  refine ow_nil ?_
  refine tw_seq ?_
  refine tw_seq ?_
  refine tw_region ?_
  refine ow_g (g_ldab (cs' := [_, _, _, _, _, _, _, _, _]) ag83 ty83 rfl hb1 rfl rfl) rfl ?_
  refine ow_d (d_call (vs := [_]) rfl (rinfo_any _ _ _ _ _ _ _ i _ (by first | assumption | exact Own.rd (by assumption) | exact Rd.keep0 (by assumption) hB | exact Own.rd (Own.keep0 (by assumption) hB)) (by first | assumption | exact Own.rd (by assumption) | exact Rd.keep0 (by assumption) hB | exact Own.rd (Own.keep0 (by assumption) hB)) (by first | assumption | exact Own.rd (by assumption) | exact Rd.keep0 (by assumption) hB | exact Own.rd (Own.keep0 (by assumption) hB)) (by first | assumption | exact Own.rd (by assumption) | exact Rd.keep0 (by assumption) hB | exact Own.rd (Own.keep0 (by assumption) hB)) (by first | assumption | exact Own.rd (by assumption) | exact Rd.keep0 (by assumption) hB | exact Own.rd (Own.keep0 (by assumption) hB)) (by first | assumption | exact Own.rd (by assumption) | exact Rd.keep0 (by assumption) hB | exact Own.rd (Own.keep0 (by assumption) hB)) (by first | assumption | exact Own.rd (by assumption) | exact Rd.keep0 (by assumption) hB | exact Own.rd (Own.keep0 (by assumption) hB)))) rfl ?_
  rintro _ w2 ⟨rfl, k2⟩
  replace hb1 := hb1.keep0 k2
  replace hB := hB.trans k2
  refine ow_g (g_not rfl) rfl ?_
  refine ow_nil ?_
  refine tw_cond rfl (fun hc1 => ?_) (fun hc1 => ?_)
  · -- yes
    have hd1 := hc1
    try (simp only [Bool.and_eq_true, Bool.or_eq_true, decide_eq_true_eq, Bool.and_eq_false_iff, Bool.or_eq_false_iff, decide_eq_false_iff_not, Bool.not_eq_true', Bool.not_eq_false', Bool.not_eq_true, Bool.not_eq_false, ne_eq, Decidable.not_not, decide_true, decide_false, Bool.true_and, Bool.false_and, Bool.or_false, Bool.false_or, not_true_eq_false, false_or, or_false, true_and, and_true, not_false_eq_true, reduceCtorEq] at hd1)
    refine tw_seq ?_
    refine tw_region ?_
    refine ow_g (g_as rfl) rfl ?_
    refine ow_g (g_as rfl) rfl ?_
    refine ow_nil ?_
    refine tw_ret2 hfin Try.results33 rfl rfl ?_
    have hok : infOk i = false := by simpa using hc1
    exact ⟨_, by unfold infE; rw [hok]; rfl, by unfold infB; rw [hok]; exact own_nil _ _ _ _, hB⟩
  · -- no
    have hd2 := hc1
    try (simp only [Bool.and_eq_true, Bool.or_eq_true, decide_eq_true_eq, Bool.and_eq_false_iff, Bool.or_eq_false_iff, decide_eq_false_iff_not, Bool.not_eq_true', Bool.not_eq_false', Bool.not_eq_true, Bool.not_eq_false, ne_eq, Decidable.not_not, decide_true, decide_false, Bool.true_and, Bool.false_and, Bool.or_false, Bool.false_or, not_true_eq_false, false_or, or_false, true_and, and_true, not_false_eq_true, reduceCtorEq] at hd2)
    refine tw_skip ?_
    refine tw_seq ?_
    refine tw_planA 13 [0, 1, 3, 4, 5, 6, 7, 8, 11, 12, 2, 9, 10] [2, 9, 10] [] [] mixed [(1, _)] ⟨rfl, trivial⟩ (by decide +kernel) (by decide) (by decide) ?_ (fun x hx => by cases hx) rfl (fun w3 k3 => ?_)
    · intro q hq; cases hq
    replace hb1 := hb1.keep0 k3
    replace hB := hB.trans k3
    have hok : infOk i = true := by simpa using hc1
    obtain ⟨q1, q2, q3, q4, q5, q6, q7⟩ := infOk_iff.1 hok
    have q0 := ctxT_len q1
    have hj1 := joinB_4 (a := ctxT i.c) (b := i.tree) (c := i.conf) (d := i.outer) q0 (by omega) (by omega) (by omega)
    have hj2 := joinB_1 (a := i.sig) (by omega)
    have hl1 := vec_le (ctxT i.c); have hl2 := vec_le i.tree; have hl3 := vec_le i.conf; have hl4 := vec_le i.outer; have hl5 := vec_le i.sig
    have hq1 : (joinB [ctxT i.c, i.tree, i.conf, i.outer]).length ≤ 130000 := by rw [hj1]; simp only [List.length_append]; omega
    have hq2 : (be i.signer (4 : Int).toNat).length = 4 := be_length _ _
    have hq3 : (joinB [i.sig]).length ≤ 100 := by rw [hj2]; omega
    have ltb1 := hb1.lt
    have gl_w := hB.size
    refine pa_g [(1, _)] rfl rfl ⟨rfl, trivial⟩ rfl (fun W' kk => g_faE 0 Try.underlying83 rfl ty81 (by decide) rfl rfl) ?_
    refine pa_g [(8, _)] rfl rfl ⟨rfl, trivial⟩ rfl (fun W' kk => g_ldab (cs' := [_, _, _, _]) ag81 ty81 rfl (Bk.keep0 hb1 kk) rfl rfl) ?_
    refine pa_g [(1, _)] rfl rfl ⟨rfl, trivial⟩ rfl (fun W' kk => g_faE 4 Try.underlying83 rfl ty23 (by decide) rfl rfl) ?_
    refine pa_g [(11, _)] rfl rfl ⟨rfl, trivial⟩ rfl (fun W' kk => g_ldb sc23 rfl (Bk.keep0 hb1 kk) rfl) ?_
    refine pa_g [(1, _)] rfl rfl ⟨rfl, trivial⟩ rfl (fun W' kk => g_faE 5 Try.underlying83 rfl ty23 (by decide) rfl rfl) ?_
    refine pa_g [(13, _)] rfl rfl ⟨rfl, trivial⟩ rfl (fun W' kk => g_ldb sc23 rfl (Bk.keep0 hb1 kk) rfl) ?_
    refine pa_g [(1, _)] rfl rfl ⟨rfl, trivial⟩ rfl (fun W' kk => g_faE 6 Try.underlying83 rfl ty23 (by decide) rfl rfl) ?_
    refine pa_g [(15, _)] rfl rfl ⟨rfl, trivial⟩ rfl (fun W' kk => g_ldb sc23 rfl (Bk.keep0 hb1 kk) rfl) ?_
    refine pa_g [(1, _)] rfl rfl ⟨rfl, trivial⟩ rfl (fun W' kk => g_faE 7 Try.underlying83 rfl ty3 (by decide) rfl rfl) ?_
    refine pa_g [(19, _)] rfl rfl ⟨rfl, trivial⟩ rfl (fun W' kk => g_ldb sc3 rfl (Bk.keep0 hb1 kk) rfl) ?_
    refine pa_d [(9, _)] rfl rfl ⟨rfl, trivial⟩ rfl (fun w5 k5 => ?_)
    replace hb1 := hb1.keep0 k5
    replace hB := hB.trans k5
    refine (d_call (vs := [_]) rfl (rctxb_any _ _ _ i.c _ (by first | assumption | exact Own.rd (by assumption) | exact Rd.keep0 (by assumption) hB | exact Own.rd (Own.keep0 (by assumption) hB)) (by first | assumption | exact Own.rd (by assumption) | exact Rd.keep0 (by assumption) hB | exact Own.rd (Own.keep0 (by assumption) hB)) (by first | assumption | exact Own.rd (by assumption) | exact Rd.keep0 (by assumption) hB | exact Own.rd (Own.keep0 (by assumption) hB)) q1)).mono ?_
    rintro v1 w4 ⟨o1, k4⟩
    refine ⟨k4, (fun x hx => ⟨.inr (o1.blk x (o1.rd.cblk ▸ hx)).1, (o1.blk x (o1.rd.cblk ▸ hx)).2⟩), ?_⟩
    have gl_o1 := hB.size
    have sb_b1_o1 := fun x hx => (show x ≠ b1 from by have h1 := (o1.blk x hx).1; have h2 := hb1.lt; omega)
    replace hb1 := hb1.keep0 k4
    replace hB := hB.trans k4
    have u_o1 := o1.blk
    refine pa_d [(10, _), (12, _), (14, _), (16, _)] rfl rfl ⟨rfl, rfl, rfl, rfl, trivial⟩ rfl (fun w7 k7 => ?_)
    replace hb1 := hb1.keep0 k7
    replace o1 := o1.keep0 k7
    replace hB := hB.trans k7
    refine (d_bsL (m := 4) (ls := [ctxT i.c, i.tree, i.conf, i.outer]) (xs := [.tmp 10, .tmp 12, .tmp 14, .tmp 16]) (us := [_, _, _, _]) Try.underlying102 ty23 rfl rfl (rdL_cons (by first | exact Rd.nil _ _ | exact (by first | assumption | exact Own.rd (by assumption) | exact Rd.keep0 (by assumption) hB | exact Own.rd (Own.keep0 (by assumption) hB))) (rdL_cons (by first | exact Rd.nil _ _ | exact (by first | assumption | exact Own.rd (by assumption) | exact Rd.keep0 (by assumption) hB | exact Own.rd (Own.keep0 (by assumption) hB))) (rdL_cons (by first | exact Rd.nil _ _ | exact (by first | assumption | exact Own.rd (by assumption) | exact Rd.keep0 (by assumption) hB | exact Own.rd (Own.keep0 (by assumption) hB))) (rdL_cons (by first | exact Rd.nil _ _ | exact (by first | assumption | exact Own.rd (by assumption) | exact Rd.keep0 (by assumption) hB | exact Own.rd (Own.keep0 (by assumption) hB))) (rdL_nil _))))) rfl rfl).mono ?_
    rintro v2 w6 ⟨sl1, k6⟩
    refine ⟨k6, (fun x hx => ⟨.inr (sl1.vblk x (sl1.cblk ▸ hx)).1, (sl1.vblk x (sl1.cblk ▸ hx)).2⟩), ?_⟩
    replace hb1 := hb1.keep0 k6
    replace o1 := o1.keep0 k6
    replace hB := hB.trans k6
    refine pa_d [(17, _)] rfl rfl ⟨rfl, trivial⟩ rfl (fun w9 k9 => ?_)
    replace hb1 := hb1.keep0 k9
    replace o1 := o1.keep0 k9
    replace sl1 := sl1.keep0 k9
    replace hB := hB.trans k9
    refine (d_call (vs := [_]) rfl (rjoin_any _ [ctxT i.c, i.tree, i.conf, i.outer] _ _ (by assumption) (by omega))).mono ?_
    rintro v3 w8 ⟨o3, k8⟩
    refine ⟨k8, (fun x hx => ⟨.inr (o3.blk x (o3.rd.cblk ▸ hx)).1, (o3.blk x (o3.rd.cblk ▸ hx)).2⟩), ?_⟩
    have gl_o3 := hB.size
    have sb_b1_o3 := fun x hx => (show x ≠ b1 from by have h1 := (o3.blk x hx).1; have h2 := hb1.lt; omega)
    replace hb1 := hb1.keep0 k8
    replace o1 := o1.keep0 k8
    replace sl1 := sl1.keep0 k8
    replace hB := hB.trans k8
    have u_o3 := o3.blk
    refine pa_nil (fun w10 k10 => ?_)
    replace hb1 := hb1.keep0 k10
    replace o1 := o1.keep0 k10
    replace sl1 := sl1.keep0 k10
    replace o3 := o3.keep0 k10
    replace hB := hB.trans k10
    refine fina_nil ?_
    refine ow_d (d_call (vs := [_, _]) rfl (rbytes_any i.signer 4 (by decide) _)) rfl ?_
    rintro v4 w11 ⟨o4, k11⟩
    have gl_o4 := hB.size
    have sb_b1_o4 := fun x hx => (show x ≠ b1 from by have h1 := (o4.blk x hx).1; have h2 := hb1.lt; omega)
    replace hb1 := hb1.keep0 k11
    replace o1 := o1.keep0 k11
    replace sl1 := sl1.keep0 k11
    replace o3 := o3.keep0 k11
    replace hB := hB.trans k11
    have u_o4 := o4.blk
    have zk3 := k3.size
    have zk4 := k4.size
    have zk5 := k5.size
    have zk6 := k6.size
    have zk7 := k7.size
    have zk8 := k8.size
    have zk9 := k9.size
    have zk10 := k10.size
    have zk11 := k11.size
    replace o3 := o3.lo (show b1 + 1 ≤ _ from by omega)
    have lt_o5 := hb1.lt
    refine ow_d (d_appB Try.underlying23 ty5 rfl o3 rfl (show RdB _ _ _ from o4.rd) (by first | omega | (simp only [List.length_append] at *; omega)) (by omega)) rfl ?_
    rintro v5 w12 ⟨o5, k12, lb1, _⟩
    replace hB := hB.new k12 (fun x hx => .inl (Nat.le_trans ge_b1 (Nat.le_of_lt (o3.blk x hx).1)))
    replace hb1 := hb1.keep k12 (fun hm => absurd (o3.blk _ hm).1 (Nat.lt_irrefl _))
    refine ow_g (g_as rfl) rfl ?_
    refine ow_nil ?_
    refine tw_keep [(1, _), (4, _)] ⟨rfl, rfl, trivial⟩ ?_
    refine tw_seq ?_
    refine tw_region ?_
    refine ow_g (g_mv rfl) rfl ?_
    refine ow_g (g_faE 8 Try.underlying83 rfl ty23 (by decide) rfl rfl) rfl ?_
    refine ow_g (g_ldb sc23 rfl hb1 rfl) rfl ?_
    refine ow_d (d_bsL (m := 1) (ls := [i.sig]) (xs := [.tmp 25]) (us := [_]) Try.underlying102 ty23 rfl rfl (rdL_cons (by first | exact Rd.nil _ _ | exact (by first | assumption | exact Own.rd (by assumption) | exact Rd.keep0 (by assumption) hB | exact Own.rd (Own.keep0 (by assumption) hB))) (rdL_nil _)) rfl rfl) rfl ?_
    rintro v6 w13 ⟨sl2, k13⟩
    replace hb1 := hb1.keep0 k13
    replace o5 := o5.keep0 k13
    replace hB := hB.trans k13
    refine ow_d (d_call (vs := [_]) rfl (rjoin_any _ [i.sig] _ _ (by assumption) (by omega))) rfl ?_
    rintro v7 w14 ⟨o7, k14⟩
    have gl_o7 := hB.size
    have sb_b1_o7 := fun x hx => (show x ≠ b1 from by have h1 := (o7.blk x hx).1; have h2 := hb1.lt; omega)
    replace hb1 := hb1.keep0 k14
    replace o5 := o5.keep0 k14
    replace sl2 := sl2.keep0 k14
    replace hB := hB.trans k14
    have u_o7 := o7.blk
    have lt_o8 := hb1.lt
    refine ow_d (d_appB Try.underlying23 ty5 rfl o5 rfl (show RdB _ _ _ from o7.rd) (by first | omega | (simp only [List.length_append] at *; omega)) (by omega)) rfl ?_
    rintro v8 w15 ⟨o8, k15, lb2, _⟩
    replace hB := hB.new k15 (fun x hx => .inl (Nat.le_trans ge_b1 (Nat.le_of_lt (o5.blk x hx).1)))
    replace hb1 := hb1.keep k15 (fun hm => absurd (o5.blk _ hm).1 (Nat.lt_irrefl _))
    refine ow_g (g_as rfl) rfl ?_
    refine ow_g (g_as rfl) rfl ?_
    refine ow_nil ?_
    refine tw_ret2 hfin Try.results33 rfl rfl ?_
    have hh := o8
    have hlo : w.heap.size ≤ b1 + 1 := by omega
    exact ⟨_, by unfold infE; rw [hok]; rfl, by unfold infB; rw [hok]; exact (show OwnB _ _ _ (infT i) by have e : (joinB [ctxT i.c, i.tree, i.conf, i.outer] ++ be i.signer (4 : Int).toNat) ++ joinB [i.sig] = infT i := (by rw [hj1, hj2]; unfold infT; rw [show (4 : Int).toNat = 4 from rfl]; simp); unfold OwnB; rw [← e, List.length_append, List.length_append]; exact hh).lo hlo, hB⟩
end Go.Proofs.Ytimeclfplaonkaa.W
namespace Go.Proofs.Ytimeclfplaonkaa.W
open Go Go.Eng Go.Byt
set_option linter.unusedVariables false
set_option linter.unusedSimpArgs false
set_option maxRecDepth 100000 in
set_option maxHeartbeats 1000000 in
theorem rgetinfo_any (v : Value) (b : List UInt8) (w : World) (hv : RdB w v b) (hbl : b.length ≤ 140737488351232) : Rets Try.prog 35 [v] w (fun r w' => ∃ g t x tr co ou sg, r = .tuple #[.agg [g, .int .i64 (igI b).c.ep, t, x, tr, co, ou, .int .i64 (igI b).signer, sg].toArray, .int .i64 (igE b)] ∧ RdB w' g (igI b).c.g ∧ RdB w' t (igI b).c.tr ∧ RdB w' x (igI b).c.tx ∧ RdB w' tr (igI b).tree ∧ RdB w' co (igI b).conf ∧ RdB w' ou (igI b).outer ∧ RdB w' sg (igI b).sig ∧ Keep [] w w') := by
  have hB : Keep [] w w := Keep.refl _ _
  refine rets_of_tw Try.func35 rfl (by decide) Try.ntmps35 rfl (fun fin _ hfin => ?_)
  refine tw_seq ?_
  refine tw_region ?_
  refine ow_d (d_alloc ty83) rfl ?_
  rintro _ w1 ⟨b1, rfl, eb1, hb1, k1, z1⟩
  have ge_b1 : w.heap.size ≤ b1 := by have := hB.size; omega
  replace hB := hB.trans k1
  clear eb1 z1
  refine ow_g (g_as rfl) rfl ?_
  refine ow_nil ?_
  refine tw_seq ?_
  refine tw_region ?_
  refine ow_g (g_mv rfl) rfl ?_
  have zb1 := hb1.lt; have hs8 := hB.size
  refine ow_d (d_call (vs := [_]) rfl (rnewL_any _ b _ (by first | assumption | exact Own.rd (by assumption) | exact Rd.keep0 (by assumption) hB | exact Own.rd (Own.keep0 (by assumption) hB)) (by omega))) rfl ?_
  rintro _ w2 ⟨p1, rfl, rr, k2⟩
  replace hb1 := hb1.keep0 k2
  replace hB := hB.trans k2
  have gp1 := rr.1
  replace rr := rr.rdr
  refine ow_g (g_as rfl) rfl ?_
  refine ow_nil ?_
  refine tw_seq ?_
  refine tw_region ?_
  refine ow_g (g_mv rfl) rfl ?_
  have lv0 := rr.lt
  refine ow_d (d_call (vs := [_]) rfl (rvector_any p1 b 0 _ rr)) rfl ?_
  rintro v1 w3 ⟨_, rfl, o1, rr, km1⟩
  have gl_o1 := hB.size
  have sb_b1_o1 := fun x hx => (show x ≠ b1 from by have h1 := (o1.blk x hx).1; have h2 := hb1.lt; omega)
  have z_km1 := km1.size
  replace hb1 := hb1.keep km1 (fun hm => by have h9 := List.mem_singleton.1 hm; omega)
  replace hB := hB.new km1 (fun x hm => .inl (by have h9 := List.mem_singleton.1 hm; omega))
  have hq0 := rVec_out b 0
  have lvc := rr.lt
  refine ow_d (d_call (vs := [_]) rfl (rgetc_any _ (rVec b 0).1 _ o1.rd (by omega))) rfl ?_
  rintro _ w4 ⟨gv, tv, xv, rfl, oa, ob, oc, k3⟩
  have gl_oa := hB.size
  have sb_b1_oa := fun x hx => (show x ≠ b1 from by have h1 := (oa.blk x hx).1; have h2 := hb1.lt; omega)
  have gl_ob := hB.size
  have sb_b1_ob := fun x hx => (show x ≠ b1 from by have h1 := (ob.blk x hx).1; have h2 := hb1.lt; omega)
  have gl_oc := hB.size
  have sb_b1_oc := fun x hx => (show x ≠ b1 from by have h1 := (oc.blk x hx).1; have h2 := hb1.lt; omega)
  replace hb1 := hb1.keep0 k3
  replace rr := rr.keep0 k3
  replace hB := hB.trans k3
  have u_oa := oa.blk
  have u_ob := ob.blk
  have u_oc := oc.blk
  refine ow_g (g_mv rfl) rfl ?_
  refine ow_g (g_ext (vs := [_, _]) rfl rfl) rfl ?_
  refine ow_g (g_ext (vs := [_, _]) rfl rfl) rfl ?_
  have lt5 := rr.lt
  refine ow_d (d_alloc ty81) rfl ?_
  rintro _ w5 ⟨b2, rfl, eb2, hb2, k4, z2⟩
  have zp5 : p1 < b2 := by omega
  have ge_b2 : w.heap.size ≤ b2 := by have := hB.size; omega
  have ne_b1_b2 : b1 ≠ b2 := by have := hb1.lt; omega
  have sb_b2_oa := fun x hx => (show x ≠ b2 from by have := (oa.blk x hx).2; omega)
  have sb_b2_ob := fun x hx => (show x ≠ b2 from by have := (ob.blk x hx).2; omega)
  have sb_b2_oc := fun x hx => (show x ≠ b2 from by have := (oc.blk x hx).2; omega)
  replace hb1 := hb1.keep0 k4
  replace rr := rr.keep0 k4
  replace oa := oa.keep0 k4
  replace ob := ob.keep0 k4
  replace oc := oc.keep0 k4
  replace hB := hB.trans k4
  clear eb2 z2
  refine ow_d0 (d_sta ty81 rfl rfl rfl (by simp only [List.forall_mem_cons]; refine ⟨(by first | rfl | exact Rd.one (by first | assumption | exact Own.rd (by assumption) | exact Rd.keep0 (by assumption) hB | exact Own.rd (Own.keep0 (by assumption) hB))), (by first | rfl | exact Rd.one (by first | assumption | exact Own.rd (by assumption) | exact Rd.keep0 (by assumption) hB | exact Own.rd (Own.keep0 (by assumption) hB))), (by first | rfl | exact Rd.one (by first | assumption | exact Own.rd (by assumption) | exact Rd.keep0 (by assumption) hB | exact Own.rd (Own.keep0 (by assumption) hB))), (by first | rfl | exact Rd.one (by first | assumption | exact Own.rd (by assumption) | exact Rd.keep0 (by assumption) hB | exact Own.rd (Own.keep0 (by assumption) hB))), fun v hv => by cases hv⟩) hb2 rfl) ?_
  rintro _ w6 ⟨hb3, k5, z3⟩
  replace hb1 := hb1.keep k5 (fun hm => absurd (List.mem_singleton.1 hm) ne_b1_b2)
  replace rr := rr.keep k5 (fun x hx hm => (fun x (hx : x ≤ p1) => (show x ≠ b2 from by omega)) x hx (List.mem_singleton.1 hm))
  replace oa := oa.keep k5 (fun x hx hm => sb_b2_oa x hx (List.mem_singleton.1 hm))
  replace ob := ob.keep k5 (fun x hx hm => sb_b2_ob x hx (List.mem_singleton.1 hm))
  replace oc := oc.keep k5 (fun x hx hm => sb_b2_oc x hx (List.mem_singleton.1 hm))
  replace hB := hB.new k5 (fun x hx => .inl ((List.mem_singleton.1 hx) ▸ ge_b2))
  clear z3
  replace hb3 : Bk w6 b2 _ [gv, .int .i64 (cgC (rVec b 0).1).ep, tv, xv] := hb3
  refine ow_g (g_as rfl) rfl ?_
  have lv6 := rr.lt
  refine ow_nil ?_
  refine tw_keep [(2, _), (4, _), (5, _), (6, _)] ⟨rfl, rfl, rfl, rfl, trivial⟩ ?_
  refine tw_seq ?_
  have gs1 := hB.size
  have lt1 := hb1.lt
  have lt2 := fun x hx => (oa.blk x hx).2
  have lt3 := fun x hx => (ob.blk x hx).2
  have lt4 := fun x hx => (oc.blk x hx).2
  have lt5 := hb3.lt
  refine tw_planA 5 [0, 1, 2, 3] [2] [p1] [(4, 83, [.slice none 0 0, .int .i64 0, .slice none 0 0, .slice none 0 0, .slice none 0 0, .slice none 0 0, .slice none 0 0, .int .i64 0, .slice none 0 0])] mixed [(5, _), (4, _), (2, _), (6, _)] ⟨rfl, rfl, rfl, rfl, trivial⟩ (by decide +kernel) (by decide) (by decide) ?_ (fun x hx => by have h9 := List.mem_singleton.1 hx; have := rr.lt; omega) rfl (fun w7 k6 => ?_)
  · simp only [List.forall_mem_cons]; exact ⟨⟨_, _, _, _, _, _, rfl, ty83⟩, fun q hq => by cases hq⟩
  replace hb1 := hb1.keep0 k6
  replace rr := rr.keep0 k6
  replace oa := oa.keep0 k6
  replace ob := ob.keep0 k6
  replace oc := oc.keep0 k6
  replace hb3 := hb3.keep0 k6
  replace hB := hB.trans k6
  refine pa_g [(5, _)] rfl rfl ⟨rfl, trivial⟩ rfl (fun W' kk => g_ldab (cs' := [_, _, _, _]) ag81 ty81 rfl (Bk.keep hb3 kk (by simp only [List.mem_cons, List.not_mem_nil, or_false]; first | assumption | (apply Ne.symm; assumption) | omega)) rfl rfl) ?_
  refine pa_g [(4, _)] rfl rfl ⟨rfl, trivial⟩ rfl (fun W' kk => g_mv rfl) ?_
  refine pa_d [(17, _)] rfl rfl ⟨rfl, trivial⟩ rfl (fun w8 k7 => ?_)
  replace hb1 := hb1.keep0 k7
  replace rr := rr.keep0 k7
  replace oa := oa.keep0 k7
  replace ob := ob.keep0 k7
  replace oc := oc.keep0 k7
  replace hb3 := hb3.keep0 k7
  replace hB := hB.trans k7
  have lv1 := rr.lt
  refine (d_call (vs := [_]) rfl (rvector_any p1 ((rVec b 0).2.1) ((rVec b 0).2.2) _ rr)).mono ?_
  rintro v2 w9 ⟨_, rfl, o2, rr, km2⟩
  refine ⟨km2, (fun x hx => ⟨.inr (o2.blk x (o2.rd.cblk ▸ hx)).1, (o2.blk x (o2.rd.cblk ▸ hx)).2⟩), ?_⟩
  have gl_o2 := hB.size
  have sb_b1_o2 := fun x hx => (show x ≠ b1 from by have h1 := (o2.blk x hx).1; have h2 := hb1.lt; omega)
  have sb_b2_o2 := fun x hx => (show x ≠ b2 from by have h1 := (o2.blk x hx).1; have h2 := hb3.lt; omega)
  have z_km2 := km2.size
  replace hb1 := hb1.keep km2 (fun hm => by have h9 := List.mem_singleton.1 hm; omega)
  replace oa := oa.keep km2 (fun x hx hm => by have h9 := List.mem_singleton.1 hm; have h8 := (oa.blk x hx).1; omega)
  replace ob := ob.keep km2 (fun x hx hm => by have h9 := List.mem_singleton.1 hm; have h8 := (ob.blk x hx).1; omega)
  replace oc := oc.keep km2 (fun x hx hm => by have h9 := List.mem_singleton.1 hm; have h8 := (oc.blk x hx).1; omega)
  replace hb3 := hb3.keep km2 (fun hm => by have h9 := List.mem_singleton.1 hm; omega)
  replace hB := hB.new km2 (fun x hm => .inl (by have h9 := List.mem_singleton.1 hm; omega))
  refine pa_g [(16, _), (18, _)] rfl rfl ⟨rfl, rfl, trivial⟩ rfl (fun W' kk => g_bld (idx := [0, 1]) (xs := [.tmp 16, .tmp 18]) (vs := [_, _]) (css := [[gv, .int .i64 (cgC (rVec b 0).1).ep, tv, xv], [_]]) (out := [gv, .int .i64 (cgC (rVec b 0).1).ep, tv, xv, v2, .slice none 0 0, .slice none 0 0, .int .i64 0, .slice none 0 0]) pl83 ty83 rfl rfl ⟨rfl, Rd.cells (Own.rd o2), trivial⟩ rfl rfl) ?_
  refine pa_nil (fun w10 k8 => ?_)
  replace hb1 := hb1.keep0 k8
  replace rr := rr.keep0 k8
  replace oa := oa.keep0 k8
  replace ob := ob.keep0 k8
  replace oc := oc.keep0 k8
  replace hb3 := hb3.keep0 k8
  replace o2 := o2.keep0 k8
  replace hB := hB.trans k8
  intro b3 eb3 lb1 hb4 ds1 sp1
  have ge_b3 : w.heap.size ≤ b3 := Nat.le_trans gs1 eb3
  have ne_b1_b3 : b1 ≠ b3 := Nat.ne_of_lt (Nat.lt_of_lt_of_le lt1 eb3)
  have sb_b3_oa := fun x hx => (Nat.ne_of_lt (Nat.lt_of_lt_of_le (lt2 x hx) eb3))
  have sb_b3_ob := fun x hx => (Nat.ne_of_lt (Nat.lt_of_lt_of_le (lt3 x hx) eb3))
  have sb_b3_oc := fun x hx => (Nat.ne_of_lt (Nat.lt_of_lt_of_le (lt4 x hx) eb3))
  have ne_b2_b3 : b2 ≠ b3 := Nat.ne_of_lt (Nat.lt_of_lt_of_le lt5 eb3)
  have sb_b3_o2 := fun x (hx : x ∈ vblk v2) => sp1 2 (by decide) (by rfl) _ rfl x (by rw [Rd.cblk o2.rd]; exact hx)
  refine fina_nil ?_
  have zp7 : p1 < b3 := by have := eb3; omega
  refine ow_d0 (d_sta ty83 rfl rfl rfl (by simp only [List.forall_mem_cons]; refine ⟨(by first | rfl | exact Rd.one (by first | assumption | exact Own.rd (by assumption) | exact Rd.keep0 (by assumption) hB | exact Own.rd (Own.keep0 (by assumption) hB))), (by first | rfl | exact Rd.one (by first | assumption | exact Own.rd (by assumption) | exact Rd.keep0 (by assumption) hB | exact Own.rd (Own.keep0 (by assumption) hB))), (by first | rfl | exact Rd.one (by first | assumption | exact Own.rd (by assumption) | exact Rd.keep0 (by assumption) hB | exact Own.rd (Own.keep0 (by assumption) hB))), (by first | rfl | exact Rd.one (by first | assumption | exact Own.rd (by assumption) | exact Rd.keep0 (by assumption) hB | exact Own.rd (Own.keep0 (by assumption) hB))), (by first | rfl | exact Rd.one (by first | assumption | exact Own.rd (by assumption) | exact Rd.keep0 (by assumption) hB | exact Own.rd (Own.keep0 (by assumption) hB))), (by first | rfl | exact Rd.one (by first | assumption | exact Own.rd (by assumption) | exact Rd.keep0 (by assumption) hB | exact Own.rd (Own.keep0 (by assumption) hB))), (by first | rfl | exact Rd.one (by first | assumption | exact Own.rd (by assumption) | exact Rd.keep0 (by assumption) hB | exact Own.rd (Own.keep0 (by assumption) hB))), (by first | rfl | exact Rd.one (by first | assumption | exact Own.rd (by assumption) | exact Rd.keep0 (by assumption) hB | exact Own.rd (Own.keep0 (by assumption) hB))), (by first | rfl | exact Rd.one (by first | assumption | exact Own.rd (by assumption) | exact Rd.keep0 (by assumption) hB | exact Own.rd (Own.keep0 (by assumption) hB))), fun v hv => by cases hv⟩) hb4 rfl) ?_
  rintro _ w11 ⟨hb5, k9, z4⟩
  replace hb1 := hb1.keep k9 (fun hm => absurd (List.mem_singleton.1 hm) ne_b1_b3)
  replace rr := rr.keep k9 (fun x hx hm => (fun x (hx : x ≤ p1) => (show x ≠ b3 from by omega)) x hx (List.mem_singleton.1 hm))
  replace oa := oa.keep k9 (fun x hx hm => sb_b3_oa x hx (List.mem_singleton.1 hm))
  replace ob := ob.keep k9 (fun x hx hm => sb_b3_ob x hx (List.mem_singleton.1 hm))
  replace oc := oc.keep k9 (fun x hx hm => sb_b3_oc x hx (List.mem_singleton.1 hm))
  replace hb3 := hb3.keep k9 (fun hm => absurd (List.mem_singleton.1 hm) ne_b2_b3)
  replace o2 := o2.keep k9 (fun x hx hm => sb_b3_o2 x hx (List.mem_singleton.1 hm))
  replace hB := hB.new k9 (fun x hx => .inl ((List.mem_singleton.1 hx) ▸ ge_b3))
  clear z4
  replace hb5 : Bk w11 b3 _ [gv, .int .i64 (cgC (rVec b 0).1).ep, tv, xv, v2, .slice none 0 0, .slice none 0 0, .int .i64 0, .slice none 0 0] := hb5
  refine ow_nil ?_
  refine tw_seq ?_
  refine tw_region ?_
  refine ow_g (g_mv rfl) rfl ?_
  have lv2 := rr.lt
  refine ow_d (d_call (vs := [_]) rfl (rvector_any p1 ((rVec ((rVec b 0).2.1) ((rVec b 0).2.2)).2.1) ((rVec ((rVec b 0).2.1) ((rVec b 0).2.2)).2.2) _ rr)) rfl ?_
  rintro v3 w12 ⟨_, rfl, o3, rr, km3⟩
  have gl_o3 := hB.size
  have sb_b1_o3 := fun x hx => (show x ≠ b1 from by have h1 := (o3.blk x hx).1; have h2 := hb1.lt; omega)
  have sb_b3_o3 := fun x hx => (show x ≠ b3 from by have h1 := (o3.blk x hx).1; have h2 := hb5.lt; omega)
  have z_km3 := km3.size
  replace hb1 := hb1.keep km3 (fun hm => by have h9 := List.mem_singleton.1 hm; omega)
  replace oa := oa.keep km3 (fun x hx hm => by have h9 := List.mem_singleton.1 hm; have h8 := (oa.blk x hx).1; omega)
  replace ob := ob.keep km3 (fun x hx hm => by have h9 := List.mem_singleton.1 hm; have h8 := (ob.blk x hx).1; omega)
  replace oc := oc.keep km3 (fun x hx hm => by have h9 := List.mem_singleton.1 hm; have h8 := (oc.blk x hx).1; omega)
  replace o2 := o2.keep km3 (fun x hx hm => by have h9 := List.mem_singleton.1 hm; have h8 := (o2.blk x hx).1; omega)
  replace hb5 := hb5.keep km3 (fun hm => by have h9 := List.mem_singleton.1 hm; omega)
  replace hB := hB.new km3 (fun x hm => .inl (by have h9 := List.mem_singleton.1 hm; omega))
  refine ow_g (g_faE 5 Try.underlying83 rfl ty23 (by decide) rfl rfl) rfl ?_
  refine ow_d0 (d_st ty23 rfl rfl (Rd.one (by first | assumption | exact Own.rd (by assumption) | exact Rd.keep0 (by assumption) hB | exact Own.rd (Own.keep0 (by assumption) hB))) hb5 rfl) ?_
  rintro _ w13 ⟨hb6, k10, z5⟩
  replace hb1 := hb1.keep k10 (fun hm => absurd (List.mem_singleton.1 hm) ne_b1_b3)
  replace rr := rr.keep k10 (fun x hx hm => (fun x (hx : x ≤ p1) => (show x ≠ b3 from by omega)) x hx (List.mem_singleton.1 hm))
  replace oa := oa.keep k10 (fun x hx hm => sb_b3_oa x hx (List.mem_singleton.1 hm))
  replace ob := ob.keep k10 (fun x hx hm => sb_b3_ob x hx (List.mem_singleton.1 hm))
  replace oc := oc.keep k10 (fun x hx hm => sb_b3_oc x hx (List.mem_singleton.1 hm))
  replace o2 := o2.keep k10 (fun x hx hm => sb_b3_o2 x hx (List.mem_singleton.1 hm))
  replace o3 := o3.keep k10 (fun x hx hm => sb_b3_o3 x hx (List.mem_singleton.1 hm))
  replace hB := hB.new k10 (fun x hx => .inl ((List.mem_singleton.1 hx) ▸ ge_b3))
  clear z5
  replace hb6 : Bk w13 b3 _ [gv, .int .i64 (cgC (rVec b 0).1).ep, tv, xv, v2, v3, .slice none 0 0, .int .i64 0, .slice none 0 0] := hb6
  refine ow_nil ?_
  refine tw_seq ?_
  refine tw_region ?_
  refine ow_g (g_mv rfl) rfl ?_
  have lv3 := rr.lt
  refine ow_d (d_call (vs := [_]) rfl (rvector_any p1 ((rVec ((rVec ((rVec b 0).2.1) ((rVec b 0).2.2)).2.1) ((rVec ((rVec b 0).2.1) ((rVec b 0).2.2)).2.2)).2.1) ((rVec ((rVec ((rVec b 0).2.1) ((rVec b 0).2.2)).2.1) ((rVec ((rVec b 0).2.1) ((rVec b 0).2.2)).2.2)).2.2) _ rr)) rfl ?_
  rintro v4 w14 ⟨_, rfl, o4, rr, km4⟩
  have gl_o4 := hB.size
  have sb_b1_o4 := fun x hx => (show x ≠ b1 from by have h1 := (o4.blk x hx).1; have h2 := hb1.lt; omega)
  have sb_b3_o4 := fun x hx => (show x ≠ b3 from by have h1 := (o4.blk x hx).1; have h2 := hb6.lt; omega)
  have z_km4 := km4.size
  replace hb1 := hb1.keep km4 (fun hm => by have h9 := List.mem_singleton.1 hm; omega)
  replace oa := oa.keep km4 (fun x hx hm => by have h9 := List.mem_singleton.1 hm; have h8 := (oa.blk x hx).1; omega)
  replace ob := ob.keep km4 (fun x hx hm => by have h9 := List.mem_singleton.1 hm; have h8 := (ob.blk x hx).1; omega)
  replace oc := oc.keep km4 (fun x hx hm => by have h9 := List.mem_singleton.1 hm; have h8 := (oc.blk x hx).1; omega)
  replace o2 := o2.keep km4 (fun x hx hm => by have h9 := List.mem_singleton.1 hm; have h8 := (o2.blk x hx).1; omega)
  replace o3 := o3.keep km4 (fun x hx hm => by have h9 := List.mem_singleton.1 hm; have h8 := (o3.blk x hx).1; omega)
  replace hb6 := hb6.keep km4 (fun hm => by have h9 := List.mem_singleton.1 hm; omega)
  replace hB := hB.new km4 (fun x hm => .inl (by have h9 := List.mem_singleton.1 hm; omega))
  refine ow_g (g_faE 6 Try.underlying83 rfl ty23 (by decide) rfl rfl) rfl ?_
  refine ow_d0 (d_st ty23 rfl rfl (Rd.one (by first | assumption | exact Own.rd (by assumption) | exact Rd.keep0 (by assumption) hB | exact Own.rd (Own.keep0 (by assumption) hB))) hb6 rfl) ?_
  rintro _ w15 ⟨hb7, k11, z6⟩
  replace hb1 := hb1.keep k11 (fun hm => absurd (List.mem_singleton.1 hm) ne_b1_b3)
  replace rr := rr.keep k11 (fun x hx hm => (fun x (hx : x ≤ p1) => (show x ≠ b3 from by omega)) x hx (List.mem_singleton.1 hm))
  replace oa := oa.keep k11 (fun x hx hm => sb_b3_oa x hx (List.mem_singleton.1 hm))
  replace ob := ob.keep k11 (fun x hx hm => sb_b3_ob x hx (List.mem_singleton.1 hm))
  replace oc := oc.keep k11 (fun x hx hm => sb_b3_oc x hx (List.mem_singleton.1 hm))
  replace o2 := o2.keep k11 (fun x hx hm => sb_b3_o2 x hx (List.mem_singleton.1 hm))
  replace o3 := o3.keep k11 (fun x hx hm => sb_b3_o3 x hx (List.mem_singleton.1 hm))
  replace o4 := o4.keep k11 (fun x hx hm => sb_b3_o4 x hx (List.mem_singleton.1 hm))
  replace hB := hB.new k11 (fun x hx => .inl ((List.mem_singleton.1 hx) ▸ ge_b3))
  clear z6
  replace hb7 : Bk w15 b3 _ [gv, .int .i64 (cgC (rVec b 0).1).ep, tv, xv, v2, v3, v4, .int .i64 0, .slice none 0 0] := hb7
  refine ow_nil ?_
  refine tw_keep [(4, _), (2, _), (6, _), (7, _)] ⟨rfl, rfl, rfl, rfl, trivial⟩ ?_
  refine tw_seq ?_
  refine tw_region ?_
  refine ow_g (g_mv rfl) rfl ?_
  have lv4 := rr.lt
  refine ow_d (d_call (vs := [_, _]) rfl (rrnumber_any p1 ((rVec ((rVec ((rVec ((rVec b 0).2.1) ((rVec b 0).2.2)).2.1) ((rVec ((rVec b 0).2.1) ((rVec b 0).2.2)).2.2)).2.1) ((rVec ((rVec ((rVec b 0).2.1) ((rVec b 0).2.2)).2.1) ((rVec ((rVec b 0).2.1) ((rVec b 0).2.2)).2.2)).2.2)).2.1) ((rVec ((rVec ((rVec ((rVec b 0).2.1) ((rVec b 0).2.2)).2.1) ((rVec ((rVec b 0).2.1) ((rVec b 0).2.2)).2.2)).2.1) ((rVec ((rVec ((rVec b 0).2.1) ((rVec b 0).2.2)).2.1) ((rVec ((rVec b 0).2.1) ((rVec b 0).2.2)).2.2)).2.2)).2.2) 4 _ rr (by decide))) rfl ?_
  rintro _ w16 ⟨r4, hr4, rfl, rr, km5⟩
  rw [show bitsOf 4 = 32 from by decide] at hr4
  subst hr4
  have z_km5 := km5.size
  replace hb1 := hb1.keep km5 (fun hm => by have h9 := List.mem_singleton.1 hm; omega)
  replace oa := oa.keep km5 (fun x hx hm => by have h9 := List.mem_singleton.1 hm; have h8 := (oa.blk x hx).1; omega)
  replace ob := ob.keep km5 (fun x hx hm => by have h9 := List.mem_singleton.1 hm; have h8 := (ob.blk x hx).1; omega)
  replace oc := oc.keep km5 (fun x hx hm => by have h9 := List.mem_singleton.1 hm; have h8 := (oc.blk x hx).1; omega)
  replace o2 := o2.keep km5 (fun x hx hm => by have h9 := List.mem_singleton.1 hm; have h8 := (o2.blk x hx).1; omega)
  replace o3 := o3.keep km5 (fun x hx hm => by have h9 := List.mem_singleton.1 hm; have h8 := (o3.blk x hx).1; omega)
  replace o4 := o4.keep km5 (fun x hx hm => by have h9 := List.mem_singleton.1 hm; have h8 := (o4.blk x hx).1; omega)
  replace hb7 := hb7.keep km5 (fun hm => by have h9 := List.mem_singleton.1 hm; omega)
  replace hB := hB.new km5 (fun x hm => .inl (by have h9 := List.mem_singleton.1 hm; omega))
  refine ow_g (g_faE 7 Try.underlying83 rfl ty3 (by decide) rfl rfl) rfl ?_
  refine ow_d0 (d_st ty3 rfl rfl rfl hb7 rfl) ?_
  rintro _ w17 ⟨hb8, k12, z7⟩
  replace hb1 := hb1.keep k12 (fun hm => absurd (List.mem_singleton.1 hm) ne_b1_b3)
  replace rr := rr.keep k12 (fun x hx hm => (fun x (hx : x ≤ p1) => (show x ≠ b3 from by omega)) x hx (List.mem_singleton.1 hm))
  replace oa := oa.keep k12 (fun x hx hm => sb_b3_oa x hx (List.mem_singleton.1 hm))
  replace ob := ob.keep k12 (fun x hx hm => sb_b3_ob x hx (List.mem_singleton.1 hm))
  replace oc := oc.keep k12 (fun x hx hm => sb_b3_oc x hx (List.mem_singleton.1 hm))
  replace o2 := o2.keep k12 (fun x hx hm => sb_b3_o2 x hx (List.mem_singleton.1 hm))
  replace o3 := o3.keep k12 (fun x hx hm => sb_b3_o3 x hx (List.mem_singleton.1 hm))
  replace o4 := o4.keep k12 (fun x hx hm => sb_b3_o4 x hx (List.mem_singleton.1 hm))
  replace hB := hB.new k12 (fun x hx => .inl ((List.mem_singleton.1 hx) ▸ ge_b3))
  clear z7
  replace hb8 : Bk w17 b3 _ [gv, .int .i64 (cgC (rVec b 0).1).ep, tv, xv, v2, v3, v4, .int .i64 (rNum 32 ((rVec ((rVec ((rVec ((rVec b 0).2.1) ((rVec b 0).2.2)).2.1) ((rVec ((rVec b 0).2.1) ((rVec b 0).2.2)).2.2)).2.1) ((rVec ((rVec ((rVec b 0).2.1) ((rVec b 0).2.2)).2.1) ((rVec ((rVec b 0).2.1) ((rVec b 0).2.2)).2.2)).2.2)).2.1) ((rVec ((rVec ((rVec ((rVec b 0).2.1) ((rVec b 0).2.2)).2.1) ((rVec ((rVec b 0).2.1) ((rVec b 0).2.2)).2.2)).2.1) ((rVec ((rVec ((rVec b 0).2.1) ((rVec b 0).2.2)).2.1) ((rVec ((rVec b 0).2.1) ((rVec b 0).2.2)).2.2)).2.2)).2.2) 4).1, .slice none 0 0] := hb8
  refine ow_nil ?_
  refine tw_seq ?_
  refine tw_region ?_
  refine ow_g (g_mv rfl) rfl ?_
  have lv5 := rr.lt
  refine ow_d (d_call (vs := [_]) rfl (rvector_any p1 ((rNum 32 ((rVec ((rVec ((rVec ((rVec b 0).2.1) ((rVec b 0).2.2)).2.1) ((rVec ((rVec b 0).2.1) ((rVec b 0).2.2)).2.2)).2.1) ((rVec ((rVec ((rVec b 0).2.1) ((rVec b 0).2.2)).2.1) ((rVec ((rVec b 0).2.1) ((rVec b 0).2.2)).2.2)).2.2)).2.1) ((rVec ((rVec ((rVec ((rVec b 0).2.1) ((rVec b 0).2.2)).2.1) ((rVec ((rVec b 0).2.1) ((rVec b 0).2.2)).2.2)).2.1) ((rVec ((rVec ((rVec b 0).2.1) ((rVec b 0).2.2)).2.1) ((rVec ((rVec b 0).2.1) ((rVec b 0).2.2)).2.2)).2.2)).2.2) 4).2.1) ((rNum 32 ((rVec ((rVec ((rVec ((rVec b 0).2.1) ((rVec b 0).2.2)).2.1) ((rVec ((rVec b 0).2.1) ((rVec b 0).2.2)).2.2)).2.1) ((rVec ((rVec ((rVec b 0).2.1) ((rVec b 0).2.2)).2.1) ((rVec ((rVec b 0).2.1) ((rVec b 0).2.2)).2.2)).2.2)).2.1) ((rVec ((rVec ((rVec ((rVec b 0).2.1) ((rVec b 0).2.2)).2.1) ((rVec ((rVec b 0).2.1) ((rVec b 0).2.2)).2.2)).2.1) ((rVec ((rVec ((rVec b 0).2.1) ((rVec b 0).2.2)).2.1) ((rVec ((rVec b 0).2.1) ((rVec b 0).2.2)).2.2)).2.2)).2.2) 4).2.2) _ rr)) rfl ?_
  rintro v5 w18 ⟨_, rfl, o5, rr, km6⟩
  have gl_o5 := hB.size
  have sb_b1_o5 := fun x hx => (show x ≠ b1 from by have h1 := (o5.blk x hx).1; have h2 := hb1.lt; omega)
  have sb_b3_o5 := fun x hx => (show x ≠ b3 from by have h1 := (o5.blk x hx).1; have h2 := hb8.lt; omega)
  have z_km6 := km6.size
  replace hb1 := hb1.keep km6 (fun hm => by have h9 := List.mem_singleton.1 hm; omega)
  replace oa := oa.keep km6 (fun x hx hm => by have h9 := List.mem_singleton.1 hm; have h8 := (oa.blk x hx).1; omega)
  replace ob := ob.keep km6 (fun x hx hm => by have h9 := List.mem_singleton.1 hm; have h8 := (ob.blk x hx).1; omega)
  replace oc := oc.keep km6 (fun x hx hm => by have h9 := List.mem_singleton.1 hm; have h8 := (oc.blk x hx).1; omega)
  replace o2 := o2.keep km6 (fun x hx hm => by have h9 := List.mem_singleton.1 hm; have h8 := (o2.blk x hx).1; omega)
  replace o3 := o3.keep km6 (fun x hx hm => by have h9 := List.mem_singleton.1 hm; have h8 := (o3.blk x hx).1; omega)
  replace o4 := o4.keep km6 (fun x hx hm => by have h9 := List.mem_singleton.1 hm; have h8 := (o4.blk x hx).1; omega)
  replace hb8 := hb8.keep km6 (fun hm => by have h9 := List.mem_singleton.1 hm; omega)
  replace hB := hB.new km6 (fun x hm => .inl (by have h9 := List.mem_singleton.1 hm; omega))
  refine ow_g (g_faE 8 Try.underlying83 rfl ty23 (by decide) rfl rfl) rfl ?_
  refine ow_d0 (d_st ty23 rfl rfl (Rd.one (by first | assumption | exact Own.rd (by assumption) | exact Rd.keep0 (by assumption) hB | exact Own.rd (Own.keep0 (by assumption) hB))) hb8 rfl) ?_
  rintro _ w19 ⟨hb9, k13, z8⟩
  replace hb1 := hb1.keep k13 (fun hm => absurd (List.mem_singleton.1 hm) ne_b1_b3)
  replace rr := rr.keep k13 (fun x hx hm => (fun x (hx : x ≤ p1) => (show x ≠ b3 from by omega)) x hx (List.mem_singleton.1 hm))
  replace oa := oa.keep k13 (fun x hx hm => sb_b3_oa x hx (List.mem_singleton.1 hm))
  replace ob := ob.keep k13 (fun x hx hm => sb_b3_ob x hx (List.mem_singleton.1 hm))
  replace oc := oc.keep k13 (fun x hx hm => sb_b3_oc x hx (List.mem_singleton.1 hm))
  replace o2 := o2.keep k13 (fun x hx hm => sb_b3_o2 x hx (List.mem_singleton.1 hm))
  replace o3 := o3.keep k13 (fun x hx hm => sb_b3_o3 x hx (List.mem_singleton.1 hm))
  replace o4 := o4.keep k13 (fun x hx hm => sb_b3_o4 x hx (List.mem_singleton.1 hm))
  replace o5 := o5.keep k13 (fun x hx hm => sb_b3_o5 x hx (List.mem_singleton.1 hm))
  replace hB := hB.new k13 (fun x hx => .inl ((List.mem_singleton.1 hx) ▸ ge_b3))
  clear z8
  replace hb9 : Bk w19 b3 _ [gv, .int .i64 (cgC (rVec b 0).1).ep, tv, xv, v2, v3, v4, .int .i64 (rNum 32 ((rVec ((rVec ((rVec ((rVec b 0).2.1) ((rVec b 0).2.2)).2.1) ((rVec ((rVec b 0).2.1) ((rVec b 0).2.2)).2.2)).2.1) ((rVec ((rVec ((rVec b 0).2.1) ((rVec b 0).2.2)).2.1) ((rVec ((rVec b 0).2.1) ((rVec b 0).2.2)).2.2)).2.2)).2.1) ((rVec ((rVec ((rVec ((rVec b 0).2.1) ((rVec b 0).2.2)).2.1) ((rVec ((rVec b 0).2.1) ((rVec b 0).2.2)).2.2)).2.1) ((rVec ((rVec ((rVec b 0).2.1) ((rVec b 0).2.2)).2.1) ((rVec ((rVec b 0).2.1) ((rVec b 0).2.2)).2.2)).2.2)).2.2) 4).1, v5] := hb9
  refine ow_nil ?_
  refine tw_seq ?_
  refine tw_seq ?_
  refine tw_region ?_
  refine ow_g (g_mv rfl) rfl ?_
  refine ow_g (g_ne rfl rfl) rfl ?_
  refine ow_g (g_mv rfl) rfl ?_
  refine ow_grp 34 false rfl (fun c1 hgc1 => ?_)
  refine ow_gg [(4, _)] (grd1 rfl rfl rfl hgc1) ⟨und0 rfl, trivial⟩ (fun hw1 => g_mv rfl) rfl ?_
  refine ow_gdk [(35, _)] (grd1 rfl rfl rfl hgc1) ⟨und1 rfl, trivial⟩ (fun hw2 => d_call (vs := [_]) rfl (rrend_any _ _ _ _ rr)) rfl ?_
  rintro w21 k15
  replace hb1 := hb1.keep0 k15
  replace rr := rr.keep0 k15
  replace oa := oa.keep0 k15
  replace ob := ob.keep0 k15
  replace oc := oc.keep0 k15
  replace o2 := o2.keep0 k15
  replace o3 := o3.keep0 k15
  replace o4 := o4.keep0 k15
  replace o5 := o5.keep0 k15
  replace hb9 := hb9.keep0 k15
  replace hB := hB.trans k15
  refine ow_gg [(36, _)] (grd1 rfl rfl rfl hgc1) ⟨und1 rfl, trivial⟩ (fun hw3 => g_ne rfl rfl) rfl ?_
  refine ow_g (g_por rfl rfl hgc1) rfl ?_
  refine ow_g (g_mv rfl) rfl ?_
  refine ow_grp 39 false rfl (fun c2 hgc2 => ?_)
  refine ow_gg [(7, _)] (grd1 rfl rfl rfl hgc2) ⟨und0 rfl, trivial⟩ (fun hw4 => g_ldab (cs' := [_, _, _, _, _, _, _, _, _]) ag83 ty83 rfl hb9 rfl rfl) rfl ?_
  refine ow_gdk [(40, _)] (grd1 rfl rfl rfl hgc2) ⟨und1 rfl, trivial⟩ (fun hw5 => d_call (vs := [_]) rfl (rinfo_any _ _ _ _ _ _ _ (infR b).1 _ oa.rd ob.rd oc.rd o2.rd o3.rd o4.rd o5.rd)) rfl ?_
  rintro w23 k17
  replace hb1 := hb1.keep0 k17
  replace oa := oa.keep0 k17
  replace ob := ob.keep0 k17
  replace oc := oc.keep0 k17
  replace o2 := o2.keep0 k17
  replace o3 := o3.keep0 k17
  replace o4 := o4.keep0 k17
  replace o5 := o5.keep0 k17
  replace hb9 := hb9.keep0 k17
  replace hB := hB.trans k17
  refine ow_gg [(41, _)] (grd1 rfl rfl rfl hgc2) ⟨und1 rfl, trivial⟩ (fun hw6 => g_not rfl) rfl ?_
  refine ow_g (g_por rfl rfl hgc2) rfl ?_
  refine ow_nil ?_
  refine tw_keep [(2, _), (7, _), (43, _)] ⟨rfl, rfl, rfl, trivial⟩ ?_
  refine tw_cond rfl (fun hc1 => ?_) (fun hc1 => ?_)
  · -- yes
    have hd1 := hc1
    try (simp only [Bool.and_eq_true, Bool.or_eq_true, decide_eq_true_eq, Bool.and_eq_false_iff, Bool.or_eq_false_iff, decide_eq_false_iff_not, Bool.not_eq_true', Bool.not_eq_false', Bool.not_eq_true, Bool.not_eq_false, ne_eq, Decidable.not_not, decide_true, decide_false, Bool.true_and, Bool.false_and, Bool.or_false, Bool.false_or, not_true_eq_false, false_or, or_false, true_and, and_true, not_false_eq_true, reduceCtorEq] at hd1)
    refine tw_seq ?_
    refine tw_region ?_
    refine ow_g (g_bld (idx := []) (xs := []) (vs := []) (css := []) (out := [_, _, _, _, _, _, _, _, _]) pl83 ty83 rfl rfl trivial rfl rfl) rfl ?_
    refine ow_d0 (d_sta ty83 rfl rfl rfl (by simp only [List.forall_mem_cons]; refine ⟨rfl, rfl, rfl, rfl, rfl, rfl, rfl, rfl, rfl, fun v hv => by cases hv⟩) hb1 rfl) ?_
    rintro _ w24 ⟨hb10, k18, z9⟩
    replace oa := oa.keep k18 (fun x hx hm => sb_b1_oa x hx (List.mem_singleton.1 hm))
    replace ob := ob.keep k18 (fun x hx hm => sb_b1_ob x hx (List.mem_singleton.1 hm))
    replace oc := oc.keep k18 (fun x hx hm => sb_b1_oc x hx (List.mem_singleton.1 hm))
    replace o2 := o2.keep k18 (fun x hx hm => sb_b1_o2 x hx (List.mem_singleton.1 hm))
    replace o3 := o3.keep k18 (fun x hx hm => sb_b1_o3 x hx (List.mem_singleton.1 hm))
    replace o4 := o4.keep k18 (fun x hx hm => sb_b1_o4 x hx (List.mem_singleton.1 hm))
    replace o5 := o5.keep k18 (fun x hx hm => sb_b1_o5 x hx (List.mem_singleton.1 hm))
    replace hb9 := hb9.keep k18 (fun hm => absurd (List.mem_singleton.1 hm) (Ne.symm ne_b1_b3))
    replace hB := hB.new k18 (fun x hx => .inl ((List.mem_singleton.1 hx) ▸ ge_b1))
    clear z9
    replace hb10 : Bk w24 b1 _ [.slice none 0 0, .int .i64 0, .slice none 0 0, .slice none 0 0, .slice none 0 0, .slice none 0 0, .slice none 0 0, .int .i64 0, .slice none 0 0] := hb10
    refine ow_g (g_as rfl) rfl ?_
    refine ow_nil ?_
    refine tw_retct hfin Try.results35 rfl (run_loadAgg ag83 ty83 (by assumption) rfl) rfl ?_
    have hgi := igOk_iff b
    rw [← rEnd_0] at hgi
    have hg : igOk b = false := by
      rw [← Bool.not_eq_true, hgi]; rintro ⟨g1, g2, g3⟩; unfold infR at g1 g2 g3; dsimp only at g1 g2 g3; simp_all [infR]
    exact ⟨_, _, _, _, _, _, _, by unfold igE igI; rw [hg]; rfl, by unfold igI; rw [hg]; exact Rd.nil _ _, by unfold igI; rw [hg]; exact Rd.nil _ _, by unfold igI; rw [hg]; exact Rd.nil _ _, by unfold igI; rw [hg]; exact Rd.nil _ _, by unfold igI; rw [hg]; exact Rd.nil _ _, by unfold igI; rw [hg]; exact Rd.nil _ _, by unfold igI; rw [hg]; exact Rd.nil _ _, hB⟩
  · -- no
    have hd2 := hc1
    try (simp only [Bool.and_eq_true, Bool.or_eq_true, decide_eq_true_eq, Bool.and_eq_false_iff, Bool.or_eq_false_iff, decide_eq_false_iff_not, Bool.not_eq_true', Bool.not_eq_false', Bool.not_eq_true, Bool.not_eq_false, ne_eq, Decidable.not_not, decide_true, decide_false, Bool.true_and, Bool.false_and, Bool.or_false, Bool.false_or, not_true_eq_false, false_or, or_false, true_and, and_true, not_false_eq_true, reduceCtorEq] at hd2)
    refine tw_skip ?_
    refine tw_seq ?_
    refine tw_region ?_
    refine ow_g (g_ldab (cs' := [_, _, _, _, _, _, _, _, _]) ag83 ty83 rfl hb9 rfl rfl) rfl ?_
    refine ow_d0 (d_sta ty83 rfl rfl rfl (by simp only [List.forall_mem_cons]; refine ⟨(by first | rfl | exact Rd.one (by first | assumption | exact Own.rd (by assumption) | exact Rd.keep0 (by assumption) hB | exact Own.rd (Own.keep0 (by assumption) hB))), (by first | rfl | exact Rd.one (by first | assumption | exact Own.rd (by assumption) | exact Rd.keep0 (by assumption) hB | exact Own.rd (Own.keep0 (by assumption) hB))), (by first | rfl | exact Rd.one (by first | assumption | exact Own.rd (by assumption) | exact Rd.keep0 (by assumption) hB | exact Own.rd (Own.keep0 (by assumption) hB))), (by first | rfl | exact Rd.one (by first | assumption | exact Own.rd (by assumption) | exact Rd.keep0 (by assumption) hB | exact Own.rd (Own.keep0 (by assumption) hB))), (by first | rfl | exact Rd.one (by first | assumption | exact Own.rd (by assumption) | exact Rd.keep0 (by assumption) hB | exact Own.rd (Own.keep0 (by assumption) hB))), (by first | rfl | exact Rd.one (by first | assumption | exact Own.rd (by assumption) | exact Rd.keep0 (by assumption) hB | exact Own.rd (Own.keep0 (by assumption) hB))), (by first | rfl | exact Rd.one (by first | assumption | exact Own.rd (by assumption) | exact Rd.keep0 (by assumption) hB | exact Own.rd (Own.keep0 (by assumption) hB))), (by first | rfl | exact Rd.one (by first | assumption | exact Own.rd (by assumption) | exact Rd.keep0 (by assumption) hB | exact Own.rd (Own.keep0 (by assumption) hB))), (by first | rfl | exact Rd.one (by first | assumption | exact Own.rd (by assumption) | exact Rd.keep0 (by assumption) hB | exact Own.rd (Own.keep0 (by assumption) hB))), fun v hv => by cases hv⟩) hb1 rfl) ?_
    rintro _ w25 ⟨hb11, k19, z10⟩
    replace oa := oa.keep k19 (fun x hx hm => sb_b1_oa x hx (List.mem_singleton.1 hm))
    replace ob := ob.keep k19 (fun x hx hm => sb_b1_ob x hx (List.mem_singleton.1 hm))
    replace oc := oc.keep k19 (fun x hx hm => sb_b1_oc x hx (List.mem_singleton.1 hm))
    replace o2 := o2.keep k19 (fun x hx hm => sb_b1_o2 x hx (List.mem_singleton.1 hm))
    replace o3 := o3.keep k19 (fun x hx hm => sb_b1_o3 x hx (List.mem_singleton.1 hm))
    replace o4 := o4.keep k19 (fun x hx hm => sb_b1_o4 x hx (List.mem_singleton.1 hm))
    replace o5 := o5.keep k19 (fun x hx hm => sb_b1_o5 x hx (List.mem_singleton.1 hm))
    replace hb9 := hb9.keep k19 (fun hm => absurd (List.mem_singleton.1 hm) (Ne.symm ne_b1_b3))
    replace hB := hB.new k19 (fun x hx => .inl ((List.mem_singleton.1 hx) ▸ ge_b1))
    clear z10
    replace hb11 : Bk w25 b1 _ [gv, .int .i64 (cgC (rVec b 0).1).ep, tv, xv, v2, v3, v4, .int .i64 (rNum 32 ((rVec ((rVec ((rVec ((rVec b 0).2.1) ((rVec b 0).2.2)).2.1) ((rVec ((rVec b 0).2.1) ((rVec b 0).2.2)).2.2)).2.1) ((rVec ((rVec ((rVec b 0).2.1) ((rVec b 0).2.2)).2.1) ((rVec ((rVec b 0).2.1) ((rVec b 0).2.2)).2.2)).2.2)).2.1) ((rVec ((rVec ((rVec ((rVec b 0).2.1) ((rVec b 0).2.2)).2.1) ((rVec ((rVec b 0).2.1) ((rVec b 0).2.2)).2.2)).2.1) ((rVec ((rVec ((rVec b 0).2.1) ((rVec b 0).2.2)).2.1) ((rVec ((rVec b 0).2.1) ((rVec b 0).2.2)).2.2)).2.2)).2.2) 4).1, v5] := hb11
    refine ow_g (g_as rfl) rfl ?_
    refine ow_nil ?_
    refine tw_retct hfin Try.results35 rfl (run_loadAgg ag83 ty83 (by assumption) rfl) rfl ?_
    have hgi := igOk_iff b
    rw [← rEnd_0] at hgi
    have hg : igOk b = true := by
      rw [hgi]; unfold infR; dsimp only; simp_all [infR]
    exact ⟨_, _, _, _, _, _, _, by unfold igE igI; rw [hg]; rfl, by unfold igI; rw [hg]; exact oa.rd, by unfold igI; rw [hg]; exact ob.rd, by unfold igI; rw [hg]; exact oc.rd, by unfold igI; rw [hg]; exact o2.rd, by unfold igI; rw [hg]; exact o3.rd, by unfold igI; rw [hg]; exact o4.rd, by unfold igI; rw [hg]; exact o5.rd, hB⟩
end Go.Proofs.Ytimeclfplaonkaa.W
namespace Go.Proofs.Ytimeclfplaonkaa.W
open Go Go.Eng Go.Byt
set_option linter.unusedVariables false
set_option linter.unusedSimpArgs false
set_option maxRecDepth 100000 in
set_option maxHeartbeats 1000000 in
theorem sameinfo_any (g t x tr co ou sg : Value) (i : Inf) (w : World) (hg : RdB w g i.c.g) (ht : RdB w t i.c.tr) (hx : RdB w x i.c.tx) (h1 : RdB w tr i.tree) (h2 : RdB w co i.conf) (h3 : RdB w ou i.outer) (h4 : RdB w sg i.sig) (gq tq xq trq coq ouq sgq : Value) (eg : RdB w gq i.c.g) (et : RdB w tq i.c.tr) (ex : RdB w xq i.c.tx) (etr : RdB w trq i.tree) (eco : RdB w coq i.conf) (eou : RdB w ouq i.outer) (esg : RdB w sgq i.sig) : Rets Try.prog 36 [.agg [g, .int .i64 i.c.ep, t, x, tr, co, ou, .int .i64 i.signer, sg].toArray, .agg [gq, .int .i64 i.c.ep, tq, xq, trq, coq, ouq, .int .i64 i.signer, sgq].toArray] w (fun r w' => r = .bool true ∧ Keep [] w w') := by
 have hB : Keep [] w w := Keep.refl _ _
 refine rets_of_tw Try.func36 rfl (by decide) Try.ntmps36 rfl (fun fin _ hfin => ?_)
 refine tw_seq (tw_region (ow_d (d_box (cs := [g, .int .i64 i.c.ep, t, x, tr, co, ou, .int .i64 i.signer, sg]) rfl rfl) rfl ?_))
 rintro _ w1 ⟨b1, rfl, eb1, hb1, k1, z1⟩
 have ge_b1 : w.heap.size ≤ b1 := by have := hB.size; omega
 replace hB := hB.trans k1
 clear eb1 z1
 refine ow_d (d_box (cs := [gq, .int .i64 i.c.ep, tq, xq, trq, coq, ouq, .int .i64 i.signer, sgq]) rfl rfl) rfl ?_
 rintro _ w2 ⟨b2, rfl, eb2, hb2, k2, z2⟩
 have ge_b2 : w.heap.size ≤ b2 := by have := hB.size; omega
 have ne_b1_b2 : b1 ≠ b2 := by have := hb1.lt; omega
 replace hb1 := hb1.keep0 k2
 replace hB := hB.trans k2
 clear eb2 z2
 refine ow_g (g_as rfl) rfl (ow_nil (tw_seq (tw_region (ow_g (g_faE 0 Try.underlying86 rfl ty84 (by decide) rfl rfl) rfl ?_))))
 refine ow_g (g_ldab (cs' := [_, _, _, _]) ag84 ty84 rfl hb1 rfl rfl) rfl ?_
 refine ow_g (g_faE 0 Try.underlying83 rfl ty81 (by decide) rfl rfl) rfl ?_
 refine ow_g (g_ldab (cs' := [_, _, _, _]) ag81 ty81 rfl hb2 rfl rfl) rfl ?_
 refine ow_d (d_call (vs := [_, _]) rfl (samectx_any _ _ _ _ _ _ i.c _ (by first | assumption | exact Own.rd ‹_› | exact Rd.keep0 ‹_› hB | exact Own.rd (Own.keep0 ‹_› hB)) (by first | assumption | exact Own.rd ‹_› | exact Rd.keep0 ‹_› hB | exact Own.rd (Own.keep0 ‹_› hB)) (by first | assumption | exact Own.rd ‹_› | exact Rd.keep0 ‹_› hB | exact Own.rd (Own.keep0 ‹_› hB)) (by first | assumption | exact Own.rd ‹_› | exact Rd.keep0 ‹_› hB | exact Own.rd (Own.keep0 ‹_› hB)) (by first | assumption | exact Own.rd ‹_› | exact Rd.keep0 ‹_› hB | exact Own.rd (Own.keep0 ‹_› hB)) (by first | assumption | exact Own.rd ‹_› | exact Rd.keep0 ‹_› hB | exact Own.rd (Own.keep0 ‹_› hB)))) rfl ?_
 rintro _ w3 ⟨rfl, k3⟩
 replace hb1 := hb1.keep0 k3
 replace hb2 := hb2.keep0 k3
 replace hB := hB.trans k3
 refine ow_g (g_mv rfl) rfl (ow_gy (grdT rfl rfl rfl rfl) (g_faE 4 Try.underlying86 rfl ty23 (by decide) rfl rfl) rfl ?_)
 refine ow_gy (grdT rfl rfl rfl rfl) (g_ldb sc23 rfl hb1 rfl) rfl ?_
 refine ow_gy (grdT rfl rfl rfl rfl) (g_str Try.underlying23 Try.underlying5 Try.underlying9 rfl (by first | assumption | exact Own.rd ‹_› | exact Rd.keep0 ‹_› hB | exact Own.rd (Own.keep0 ‹_› hB))) rfl ?_
 refine ow_gy (grdT rfl rfl rfl rfl) (g_faE 4 Try.underlying83 rfl ty23 (by decide) rfl rfl) rfl ?_
 refine ow_gy (grdT rfl rfl rfl rfl) (g_ldb sc23 rfl hb2 rfl) rfl ?_
 refine ow_gy (grdT rfl rfl rfl rfl) (g_str Try.underlying23 Try.underlying5 Try.underlying9 rfl (by first | assumption | exact Own.rd ‹_› | exact Rd.keep0 ‹_› hB | exact Own.rd (Own.keep0 ‹_› hB))) rfl ?_
 refine ow_gy (grdT rfl rfl rfl rfl) (g_eqs rfl rfl) rfl ?_
 refine ow_g (g_pickT rfl rfl rfl) rfl ?_
 refine ow_g (g_mv rfl) rfl (ow_gy (grdT rfl rfl rfl (decide_eq_true rfl)) (g_faE 5 Try.underlying86 rfl ty23 (by decide) rfl rfl) rfl ?_)
 refine ow_gy (grdT rfl rfl rfl (decide_eq_true rfl)) (g_ldb sc23 rfl hb1 rfl) rfl ?_
 refine ow_gy (grdT rfl rfl rfl (decide_eq_true rfl)) (g_str Try.underlying23 Try.underlying5 Try.underlying9 rfl (by first | assumption | exact Own.rd ‹_› | exact Rd.keep0 ‹_› hB | exact Own.rd (Own.keep0 ‹_› hB))) rfl ?_
 refine ow_gy (grdT rfl rfl rfl (decide_eq_true rfl)) (g_faE 5 Try.underlying83 rfl ty23 (by decide) rfl rfl) rfl ?_
 refine ow_gy (grdT rfl rfl rfl (decide_eq_true rfl)) (g_ldb sc23 rfl hb2 rfl) rfl ?_
 refine ow_gy (grdT rfl rfl rfl (decide_eq_true rfl)) (g_str Try.underlying23 Try.underlying5 Try.underlying9 rfl (by first | assumption | exact Own.rd ‹_› | exact Rd.keep0 ‹_› hB | exact Own.rd (Own.keep0 ‹_› hB))) rfl ?_
 refine ow_gy (grdT rfl rfl rfl (decide_eq_true rfl)) (g_eqs rfl rfl) rfl ?_
 refine ow_g (g_pickT rfl (decide_eq_true rfl) rfl) rfl ?_
 refine ow_g (g_mv rfl) rfl (ow_gy (grdT rfl rfl rfl (decide_eq_true rfl)) (g_faE 6 Try.underlying86 rfl ty23 (by decide) rfl rfl) rfl ?_)
 refine ow_gy (grdT rfl rfl rfl (decide_eq_true rfl)) (g_ldb sc23 rfl hb1 rfl) rfl ?_
 refine ow_gy (grdT rfl rfl rfl (decide_eq_true rfl)) (g_str Try.underlying23 Try.underlying5 Try.underlying9 rfl (by first | assumption | exact Own.rd ‹_› | exact Rd.keep0 ‹_› hB | exact Own.rd (Own.keep0 ‹_› hB))) rfl ?_
 refine ow_gy (grdT rfl rfl rfl (decide_eq_true rfl)) (g_faE 6 Try.underlying83 rfl ty23 (by decide) rfl rfl) rfl ?_
 refine ow_gy (grdT rfl rfl rfl (decide_eq_true rfl)) (g_ldb sc23 rfl hb2 rfl) rfl ?_
 refine ow_gy (grdT rfl rfl rfl (decide_eq_true rfl)) (g_str Try.underlying23 Try.underlying5 Try.underlying9 rfl (by first | assumption | exact Own.rd ‹_› | exact Rd.keep0 ‹_› hB | exact Own.rd (Own.keep0 ‹_› hB))) rfl ?_
 refine ow_gy (grdT rfl rfl rfl (decide_eq_true rfl)) (g_eqs rfl rfl) rfl ?_
 refine ow_g (g_pickT rfl (decide_eq_true rfl) rfl) rfl ?_
 refine ow_g (g_mv rfl) rfl (ow_gy (grdT rfl rfl rfl (decide_eq_true rfl)) (g_faE 7 Try.underlying86 rfl ty3 (by decide) rfl rfl) rfl ?_)
 refine ow_gy (grdT rfl rfl rfl (decide_eq_true rfl)) (g_ldb sc3 rfl hb1 rfl) rfl ?_
 refine ow_gy (grdT rfl rfl rfl (decide_eq_true rfl)) (g_faE 7 Try.underlying83 rfl ty3 (by decide) rfl rfl) rfl ?_
 refine ow_gy (grdT rfl rfl rfl (decide_eq_true rfl)) (g_ldb sc3 rfl hb2 rfl) rfl ?_
 refine ow_gy (grdT rfl rfl rfl (decide_eq_true rfl)) (g_eq rfl rfl) rfl ?_
 refine ow_g (g_pickT rfl (decide_eq_true rfl) rfl) rfl ?_
 refine ow_g (g_mv rfl) rfl (ow_gy (grdT rfl rfl rfl (decide_eq_true rfl)) (g_faE 8 Try.underlying86 rfl ty23 (by decide) rfl rfl) rfl ?_)
 refine ow_gy (grdT rfl rfl rfl (decide_eq_true rfl)) (g_ldb sc23 rfl hb1 rfl) rfl ?_
 refine ow_gy (grdT rfl rfl rfl (decide_eq_true rfl)) (g_str Try.underlying23 Try.underlying5 Try.underlying9 rfl (by first | assumption | exact Own.rd ‹_› | exact Rd.keep0 ‹_› hB | exact Own.rd (Own.keep0 ‹_› hB))) rfl ?_
 refine ow_gy (grdT rfl rfl rfl (decide_eq_true rfl)) (g_faE 8 Try.underlying83 rfl ty23 (by decide) rfl rfl) rfl ?_
 refine ow_gy (grdT rfl rfl rfl (decide_eq_true rfl)) (g_ldb sc23 rfl hb2 rfl) rfl ?_
 refine ow_gy (grdT rfl rfl rfl (decide_eq_true rfl)) (g_str Try.underlying23 Try.underlying5 Try.underlying9 rfl (by first | assumption | exact Own.rd ‹_› | exact Rd.keep0 ‹_› hB | exact Own.rd (Own.keep0 ‹_› hB))) rfl ?_
 refine ow_gy (grdT rfl rfl rfl (decide_eq_true rfl)) (g_eqs rfl rfl) rfl ?_
 refine ow_g (g_pickT rfl (decide_eq_true rfl) rfl) rfl ?_
 refine ow_g (g_as rfl) rfl (ow_nil (tw_keep [(4, _)] ⟨rfl, trivial⟩ ?_))
 refine tw_ret1 hfin Try.results36 rfl ?_
 exact ⟨by simp, hB⟩
end Go.Proofs.Ytimeclfplaonkaa.W
namespace Go.Proofs.Ytimeclfplaonkaa.W
open Go Go.Eng Go.Byt
set_option linter.unusedVariables false
set_option linter.unusedSimpArgs false
set_option maxRecDepth 100000 in
set_option maxHeartbeats 1000000 in
theorem ctxcopy_any (g t x : Value) (c : Ctx) (w : World) (hg : RdB w g c.g) (ht : RdB w t c.tr) (hx : RdB w x c.tx) (l1 : c.g.length ≤ 140737488355328) (l2 : c.tr.length ≤ 140737488355328) (l3 : c.tx.length ≤ 140737488355328) : Rets Try.prog 75 [.agg [g, .int .i64 c.ep, t, x].toArray] w (fun r w' => ∃ g' t' x', r = .agg [g', .int .i64 c.ep, t', x'].toArray ∧ OwnB w' w.heap.size g' c.g ∧ OwnB w' w.heap.size t' c.tr ∧ OwnB w' w.heap.size x' c.tx ∧ Keep [] w w') := by
 have hB : Keep [] w w := Keep.refl _ _
 refine rets_of_tw Try.func75 rfl (by decide) Try.ntmps75 rfl (fun fin _ hfin => ?_)
 refine tw_seq (tw_region (ow_d (d_box (cs := [g, .int .i64 c.ep, t, x]) rfl rfl) rfl ?_))
 rintro _ w1 ⟨b1, rfl, eb1, hb1, k1, z1⟩
 have ge_b1 : w.heap.size ≤ b1 := by have := hB.size; omega
 replace hB := hB.trans k1
 clear eb1 z1
 refine ow_d (d_alloc ty84) rfl ?_
 rintro _ w2 ⟨b2, rfl, eb2, hb2, k2, z2⟩
 have ge_b2 : w.heap.size ≤ b2 := by have := hB.size; omega
 have ne_b1_b2 : b1 ≠ b2 := by have := hb1.lt; omega
 replace hb1 := hb1.keep0 k2
 replace hB := hB.trans k2
 clear eb2 z2
 refine ow_nil (tw_seq (tw_plan 12 [0, 1, 3, 4, 5, 6, 8, 9, 2, 7, 10, 11] [2, 7, 10] [] mixed [(1, _), (2, _)] ⟨rfl, rfl, trivial⟩ (by decide +kernel) rfl (fun w3 k3 => ?_)))
 replace hb1 := hb1.keep0 k3
 replace hb2 := hb2.keep0 k3
 replace hB := hB.trans k3
 refine pw_g [(1, _)] rfl rfl ⟨rfl, trivial⟩ rfl (fun W' kk => g_faE 0 Try.underlying81 rfl ty23 (by decide) rfl rfl) ?_
 refine pw_g [(3, _)] rfl rfl ⟨rfl, trivial⟩ rfl (fun W' kk => g_ldb sc23 rfl (Bk.keep0 hb1 kk) rfl) ?_
 refine pw_g [(1, _)] rfl rfl ⟨rfl, trivial⟩ rfl (fun W' kk => g_faE 1 Try.underlying81 rfl ty3 (by decide) rfl rfl) ?_
 refine pw_g [(6, _)] rfl rfl ⟨rfl, trivial⟩ rfl (fun W' kk => g_ldb sc3 rfl (Bk.keep0 hb1 kk) rfl) ?_
 refine pw_g [(1, _)] rfl rfl ⟨rfl, trivial⟩ rfl (fun W' kk => g_faE 2 Try.underlying81 rfl ty23 (by decide) rfl rfl) ?_
 refine pw_g [(8, _)] rfl rfl ⟨rfl, trivial⟩ rfl (fun W' kk => g_ldb sc23 rfl (Bk.keep0 hb1 kk) rfl) ?_
 refine pw_g [(1, _)] rfl rfl ⟨rfl, trivial⟩ rfl (fun W' kk => g_faE 3 Try.underlying81 rfl ty23 (by decide) rfl rfl) ?_
 refine pw_g [(11, _)] rfl rfl ⟨rfl, trivial⟩ rfl (fun W' kk => g_ldb sc23 rfl (Bk.keep0 hb1 kk) rfl) ?_
 refine pw_d [(4, _)] rfl rfl ⟨rfl, trivial⟩ rfl (d_call (vs := [_]) rfl (copied16_any _ _ _ (by first | assumption | exact Own.rd ‹_› | exact Rd.keep0 ‹_› hB | exact Own.rd (Own.keep0 ‹_› hB)) (by omega))) ?_
 rintro v1 w4 ⟨o1, k4⟩
 refine ⟨k4, ?_⟩
 have gl_o1 := hB.size
 have sb_b1_o1 := fun x hx => (show x ≠ b1 from by have h1 := (o1.blk x hx).1; have h2 := hb1.lt; omega)
 have sb_b2_o1 := fun x hx => (show x ≠ b2 from by have h1 := (o1.blk x hx).1; have h2 := hb2.lt; omega)
 replace hb1 := hb1.keep0 k4
 replace hb2 := hb2.keep0 k4
 replace hB := hB.trans k4
 have u_o1 := o1.blk
 refine pw_d [(9, _)] rfl rfl ⟨rfl, trivial⟩ rfl (d_call (vs := [_]) rfl (copied16_any _ _ _ (by first | assumption | exact Own.rd ‹_› | exact Rd.keep0 ‹_› hB | exact Own.rd (Own.keep0 ‹_› hB)) (by omega))) ?_
 rintro v2 w5 ⟨o2, k5⟩
 refine ⟨k5, ?_⟩
 have gl_o2 := hB.size
 have sb_b1_o2 := fun x hx => (show x ≠ b1 from by have h1 := (o2.blk x hx).1; have h2 := hb1.lt; omega)
 have sb_b2_o2 := fun x hx => (show x ≠ b2 from by have h1 := (o2.blk x hx).1; have h2 := hb2.lt; omega)
 replace hb1 := hb1.keep0 k5
 replace hb2 := hb2.keep0 k5
 replace o1 := o1.keep0 k5
 replace hB := hB.trans k5
 have u_o2 := o2.blk
 refine pw_d [(12, _)] rfl rfl ⟨rfl, trivial⟩ rfl (d_call (vs := [_]) rfl (copied16_any _ _ _ (by first | assumption | exact Own.rd ‹_› | exact Rd.keep0 ‹_› hB | exact Own.rd (Own.keep0 ‹_› hB)) (by omega))) ?_
 rintro v3 w6 ⟨o3, k6⟩
 refine ⟨k6, ?_⟩
 have gl_o3 := hB.size
 have sb_b1_o3 := fun x hx => (show x ≠ b1 from by have h1 := (o3.blk x hx).1; have h2 := hb1.lt; omega)
 have sb_b2_o3 := fun x hx => (show x ≠ b2 from by have h1 := (o3.blk x hx).1; have h2 := hb2.lt; omega)
 replace hb1 := hb1.keep0 k6
 replace hb2 := hb2.keep0 k6
 replace o1 := o1.keep0 k6
 replace o2 := o2.keep0 k6
 replace hB := hB.trans k6
 have u_o3 := o3.blk
 refine pw_g [(5, _), (7, _), (10, _), (13, _)] rfl rfl ⟨rfl, rfl, rfl, rfl, trivial⟩ rfl (fun W' kk => g_bld (idx := [0, 1, 2, 3]) (xs := [.tmp 5, .tmp 7, .tmp 10, .tmp 13]) (vs := [_, _, _, _]) (css := [[_], [_], [_], [_]]) (out := [v1, .int .i64 c.ep, v2, v3]) pl84 ty84 rfl rfl ⟨Rd.cells (Own.rd o1), rfl, Rd.cells (Own.rd o2), Rd.cells (Own.rd o3), trivial⟩ rfl rfl) ?_
 refine pw_nil ?_
 refine ow_d0 (d_sta ty84 rfl rfl rfl (by simp only [List.forall_mem_cons]; refine ⟨(by first | rfl | exact Rd.one (by first | assumption | exact Own.rd ‹_› | exact Rd.keep0 ‹_› hB | exact Own.rd (Own.keep0 ‹_› hB))), (by first | rfl | exact Rd.one (by first | assumption | exact Own.rd ‹_› | exact Rd.keep0 ‹_› hB | exact Own.rd (Own.keep0 ‹_› hB))), (by first | rfl | exact Rd.one (by first | assumption | exact Own.rd ‹_› | exact Rd.keep0 ‹_› hB | exact Own.rd (Own.keep0 ‹_› hB))), (by first | rfl | exact Rd.one (by first | assumption | exact Own.rd ‹_› | exact Rd.keep0 ‹_› hB | exact Own.rd (Own.keep0 ‹_› hB))), fun v hv => by cases hv⟩) hb2 rfl) ?_
 rintro _ w7 ⟨hb3, k7, z3⟩
 replace hb1 := hb1.keep k7 (fun hm => absurd (List.mem_singleton.1 hm) ne_b1_b2)
 replace o1 := o1.keep k7 (fun x hx hm => sb_b2_o1 x hx (List.mem_singleton.1 hm))
 replace o2 := o2.keep k7 (fun x hx hm => sb_b2_o2 x hx (List.mem_singleton.1 hm))
 replace o3 := o3.keep k7 (fun x hx hm => sb_b2_o3 x hx (List.mem_singleton.1 hm))
 replace hB := hB.new k7 (fun x hx => .inl ((List.mem_singleton.1 hx) ▸ ge_b2))
 clear z3
 replace hb3 : Bk w7 b2 _ [v1, .int .i64 c.ep, v2, v3] := hb3
 refine ow_nil (tw_keep [(2, _)] ⟨rfl, trivial⟩ ?_)
 refine tw_retc hfin Try.results75 rfl (run_loadAgg ag84 ty84 ‹_› rfl)  ?_
 exact ⟨_, _, _, rfl, o1.lo gl_o1, o2.lo gl_o2, o3.lo gl_o3, hB⟩
end Go.Proofs.Ytimeclfplaonkaa.W
namespace Go.Proofs.Ytimeclfplaonkaa.W
open Go Go.Eng Go.Byt
set_option linter.unusedVariables false
set_option linter.unusedSimpArgs false
set_option maxRecDepth 100000 in
set_option maxHeartbeats 1000000 in
theorem infocopy_any (g t x tr co ou sg : Value) (i : Inf) (w : World) (hg : RdB w g i.c.g) (ht : RdB w t i.c.tr) (hx : RdB w x i.c.tx) (h1 : RdB w tr i.tree) (h2 : RdB w co i.conf) (h3 : RdB w ou i.outer) (h4 : RdB w sg i.sig) (n0 : i.c.g.length ≤ 140737488351232) (n1 : i.c.tr.length ≤ 140737488351232) (n2 : i.c.tx.length ≤ 140737488351232) (n3 : i.tree.length ≤ 140737488351232) (n4 : i.conf.length ≤ 140737488351232) (n5 : i.outer.length ≤ 140737488351232) (n6 : i.sig.length ≤ 140737488351232) : Rets Try.prog 31 [.agg [g, .int .i64 i.c.ep, t, x, tr, co, ou, .int .i64 i.signer, sg].toArray] w (fun r w' => ∃ g' t' x' tr' co' ou' sg', r = .agg [g', .int .i64 i.c.ep, t', x', tr', co', ou', .int .i64 i.signer, sg'].toArray ∧ OwnB w' w.heap.size g' i.c.g ∧ OwnB w' w.heap.size t' i.c.tr ∧ OwnB w' w.heap.size x' i.c.tx ∧ OwnB w' w.heap.size tr' i.tree ∧ OwnB w' w.heap.size co' i.conf ∧ OwnB w' w.heap.size ou' i.outer ∧ OwnB w' w.heap.size sg' i.sig ∧ Keep [] w w') := by
 have hB : Keep [] w w := Keep.refl _ _
 refine rets_of_tw Try.func31 rfl (by decide) Try.ntmps31 rfl (fun fin _ hfin => ?_)
 refine tw_seq (tw_region (ow_d (d_box (cs := [g, .int .i64 i.c.ep, t, x, tr, co, ou, .int .i64 i.signer, sg]) rfl rfl) rfl ?_))
 rintro _ w1 ⟨b1, rfl, eb1, hb1, k1, z1⟩
 have ge_b1 : w.heap.size ≤ b1 := by have := hB.size; omega
 replace hB := hB.trans k1
 clear eb1 z1
 refine ow_d (d_alloc ty86) rfl ?_
 rintro _ w2 ⟨b2, rfl, eb2, hb2, k2, z2⟩
 have ge_b2 : w.heap.size ≤ b2 := by have := hB.size; omega
 have ne_b1_b2 : b1 ≠ b2 := by have := hb1.lt; omega
 replace hb1 := hb1.keep0 k2
 replace hB := hB.trans k2
 clear eb2 z2
 refine ow_nil (tw_seq (tw_plan 18 [0, 1, 3, 4, 6, 7, 9, 10, 12, 13, 14, 15, 2, 5, 8, 11, 16, 17] [2, 5, 8, 11, 16] [] mixed [(1, _), (2, _)] ⟨rfl, rfl, trivial⟩ (by decide +kernel) rfl (fun w3 k3 => ?_)))
 replace hb1 := hb1.keep0 k3
 replace hb2 := hb2.keep0 k3
 replace hB := hB.trans k3
 refine pw_g [(1, _)] rfl rfl ⟨rfl, trivial⟩ rfl (fun W' kk => g_faE 0 Try.underlying83 rfl ty81 (by decide) rfl rfl) ?_
 refine pw_g [(3, _)] rfl rfl ⟨rfl, trivial⟩ rfl (fun W' kk => g_ldab (cs' := [_, _, _, _]) ag81 ty81 rfl (Bk.keep0 hb1 kk) rfl rfl) ?_
 refine pw_g [(1, _)] rfl rfl ⟨rfl, trivial⟩ rfl (fun W' kk => g_faE 4 Try.underlying83 rfl ty23 (by decide) rfl rfl) ?_
 refine pw_g [(6, _)] rfl rfl ⟨rfl, trivial⟩ rfl (fun W' kk => g_ldb sc23 rfl (Bk.keep0 hb1 kk) rfl) ?_
 refine pw_g [(1, _)] rfl rfl ⟨rfl, trivial⟩ rfl (fun W' kk => g_faE 5 Try.underlying83 rfl ty23 (by decide) rfl rfl) ?_
 refine pw_g [(9, _)] rfl rfl ⟨rfl, trivial⟩ rfl (fun W' kk => g_ldb sc23 rfl (Bk.keep0 hb1 kk) rfl) ?_
 refine pw_g [(1, _)] rfl rfl ⟨rfl, trivial⟩ rfl (fun W' kk => g_faE 6 Try.underlying83 rfl ty23 (by decide) rfl rfl) ?_
 refine pw_g [(12, _)] rfl rfl ⟨rfl, trivial⟩ rfl (fun W' kk => g_ldb sc23 rfl (Bk.keep0 hb1 kk) rfl) ?_
 refine pw_g [(1, _)] rfl rfl ⟨rfl, trivial⟩ rfl (fun W' kk => g_faE 7 Try.underlying83 rfl ty3 (by decide) rfl rfl) ?_
 refine pw_g [(15, _)] rfl rfl ⟨rfl, trivial⟩ rfl (fun W' kk => g_ldb sc3 rfl (Bk.keep0 hb1 kk) rfl) ?_
 refine pw_g [(1, _)] rfl rfl ⟨rfl, trivial⟩ rfl (fun W' kk => g_faE 8 Try.underlying83 rfl ty23 (by decide) rfl rfl) ?_
 refine pw_g [(17, _)] rfl rfl ⟨rfl, trivial⟩ rfl (fun W' kk => g_ldb sc23 rfl (Bk.keep0 hb1 kk) rfl) ?_
 refine pw_d [(4, _)] rfl rfl ⟨rfl, trivial⟩ rfl (d_call (vs := [_]) rfl (ctxcopy_any _ _ _ i.c _ (by first | assumption | exact Own.rd ‹_› | exact Rd.keep0 ‹_› hB | exact Own.rd (Own.keep0 ‹_› hB)) (by first | assumption | exact Own.rd ‹_› | exact Rd.keep0 ‹_› hB | exact Own.rd (Own.keep0 ‹_› hB)) (by first | assumption | exact Own.rd ‹_› | exact Rd.keep0 ‹_› hB | exact Own.rd (Own.keep0 ‹_› hB)) (by omega) (by omega) (by omega))) ?_
 rintro _ w4 ⟨g1, t1, x1, rfl, oa1, ob1, oc1, k4⟩
 refine ⟨k4, ?_⟩
 have gl_oa1 := hB.size
 have sb_b1_oa1 := fun x hx => (show x ≠ b1 from by have h1 := (oa1.blk x hx).1; have h2 := hb1.lt; omega)
 have sb_b2_oa1 := fun x hx => (show x ≠ b2 from by have h1 := (oa1.blk x hx).1; have h2 := hb2.lt; omega)
 have gl_ob1 := hB.size
 have sb_b1_ob1 := fun x hx => (show x ≠ b1 from by have h1 := (ob1.blk x hx).1; have h2 := hb1.lt; omega)
 have sb_b2_ob1 := fun x hx => (show x ≠ b2 from by have h1 := (ob1.blk x hx).1; have h2 := hb2.lt; omega)
 have gl_oc1 := hB.size
 have sb_b1_oc1 := fun x hx => (show x ≠ b1 from by have h1 := (oc1.blk x hx).1; have h2 := hb1.lt; omega)
 have sb_b2_oc1 := fun x hx => (show x ≠ b2 from by have h1 := (oc1.blk x hx).1; have h2 := hb2.lt; omega)
 replace hb1 := hb1.keep0 k4
 replace hb2 := hb2.keep0 k4
 replace hB := hB.trans k4
 have u_oa1 := oa1.blk
 have u_ob1 := ob1.blk
 have u_oc1 := oc1.blk
 refine pw_d [(7, _)] rfl rfl ⟨rfl, trivial⟩ rfl (d_call (vs := [_]) rfl (copied_any _ _ _ (by first | assumption | exact Own.rd ‹_› | exact Rd.keep0 ‹_› hB | exact Own.rd (Own.keep0 ‹_› hB)) (by omega))) ?_
 rintro v1 w5 ⟨o1, k5⟩
 refine ⟨k5, ?_⟩
 have gl_o1 := hB.size
 have sb_b1_o1 := fun x hx => (show x ≠ b1 from by have h1 := (o1.blk x hx).1; have h2 := hb1.lt; omega)
 have sb_b2_o1 := fun x hx => (show x ≠ b2 from by have h1 := (o1.blk x hx).1; have h2 := hb2.lt; omega)
 replace hb1 := hb1.keep0 k5
 replace hb2 := hb2.keep0 k5
 replace oa1 := oa1.keep0 k5
 replace ob1 := ob1.keep0 k5
 replace oc1 := oc1.keep0 k5
 replace hB := hB.trans k5
 have u_o1 := o1.blk
 refine pw_d [(10, _)] rfl rfl ⟨rfl, trivial⟩ rfl (d_call (vs := [_]) rfl (copied_any _ _ _ (by first | assumption | exact Own.rd ‹_› | exact Rd.keep0 ‹_› hB | exact Own.rd (Own.keep0 ‹_› hB)) (by omega))) ?_
 rintro v2 w6 ⟨o2, k6⟩
 refine ⟨k6, ?_⟩
 have gl_o2 := hB.size
 have sb_b1_o2 := fun x hx => (show x ≠ b1 from by have h1 := (o2.blk x hx).1; have h2 := hb1.lt; omega)
 have sb_b2_o2 := fun x hx => (show x ≠ b2 from by have h1 := (o2.blk x hx).1; have h2 := hb2.lt; omega)
 replace hb1 := hb1.keep0 k6
 replace hb2 := hb2.keep0 k6
 replace oa1 := oa1.keep0 k6
 replace ob1 := ob1.keep0 k6
 replace oc1 := oc1.keep0 k6
 replace o1 := o1.keep0 k6
 replace hB := hB.trans k6
 have u_o2 := o2.blk
 refine pw_d [(13, _)] rfl rfl ⟨rfl, trivial⟩ rfl (d_call (vs := [_]) rfl (copied_any _ _ _ (by first | assumption | exact Own.rd ‹_› | exact Rd.keep0 ‹_› hB | exact Own.rd (Own.keep0 ‹_› hB)) (by omega))) ?_
 rintro v3 w7 ⟨o3, k7⟩
 refine ⟨k7, ?_⟩
 have gl_o3 := hB.size
 have sb_b1_o3 := fun x hx => (show x ≠ b1 from by have h1 := (o3.blk x hx).1; have h2 := hb1.lt; omega)
 have sb_b2_o3 := fun x hx => (show x ≠ b2 from by have h1 := (o3.blk x hx).1; have h2 := hb2.lt; omega)
 replace hb1 := hb1.keep0 k7
 replace hb2 := hb2.keep0 k7
 replace oa1 := oa1.keep0 k7
 replace ob1 := ob1.keep0 k7
 replace oc1 := oc1.keep0 k7
 replace o1 := o1.keep0 k7
 replace o2 := o2.keep0 k7
 replace hB := hB.trans k7
 have u_o3 := o3.blk
 refine pw_d [(18, _)] rfl rfl ⟨rfl, trivial⟩ rfl (d_call (vs := [_]) rfl (copied_any _ _ _ (by first | assumption | exact Own.rd ‹_› | exact Rd.keep0 ‹_› hB | exact Own.rd (Own.keep0 ‹_› hB)) (by omega))) ?_
 rintro v4 w8 ⟨o4, k8⟩
 refine ⟨k8, ?_⟩
 have gl_o4 := hB.size
 have sb_b1_o4 := fun x hx => (show x ≠ b1 from by have h1 := (o4.blk x hx).1; have h2 := hb1.lt; omega)
 have sb_b2_o4 := fun x hx => (show x ≠ b2 from by have h1 := (o4.blk x hx).1; have h2 := hb2.lt; omega)
 replace hb1 := hb1.keep0 k8
 replace hb2 := hb2.keep0 k8
 replace oa1 := oa1.keep0 k8
 replace ob1 := ob1.keep0 k8
 replace oc1 := oc1.keep0 k8
 replace o1 := o1.keep0 k8
 replace o2 := o2.keep0 k8
 replace o3 := o3.keep0 k8
 replace hB := hB.trans k8
 have u_o4 := o4.blk
 refine pw_g [(5, _), (8, _), (11, _), (14, _), (16, _), (19, _)] rfl rfl ⟨rfl, rfl, rfl, rfl, rfl, rfl, trivial⟩ rfl (fun W' kk => g_bld (idx := [0, 1, 2, 3, 4, 5]) (xs := [.tmp 5, .tmp 8, .tmp 11, .tmp 14, .tmp 16, .tmp 19]) (vs := [_, _, _, _, _, _]) (css := [[g1, .int .i64 i.c.ep, t1, x1], [_], [_], [_], [_], [_]]) (out := [g1, .int .i64 i.c.ep, t1, x1, v1, v2, v3, .int .i64 i.signer, v4]) pl86 ty86 rfl rfl ⟨rfl, Rd.cells (Own.rd o1), Rd.cells (Own.rd o2), Rd.cells (Own.rd o3), rfl, Rd.cells (Own.rd o4), trivial⟩ rfl rfl) ?_
 refine pw_nil ?_
 refine ow_d0 (d_sta ty86 rfl rfl rfl (by simp only [List.forall_mem_cons]; refine ⟨(by first | rfl | exact Rd.one (by first | assumption | exact Own.rd ‹_› | exact Rd.keep0 ‹_› hB | exact Own.rd (Own.keep0 ‹_› hB))), (by first | rfl | exact Rd.one (by first | assumption | exact Own.rd ‹_› | exact Rd.keep0 ‹_› hB | exact Own.rd (Own.keep0 ‹_› hB))), (by first | rfl | exact Rd.one (by first | assumption | exact Own.rd ‹_› | exact Rd.keep0 ‹_› hB | exact Own.rd (Own.keep0 ‹_› hB))), (by first | rfl | exact Rd.one (by first | assumption | exact Own.rd ‹_› | exact Rd.keep0 ‹_› hB | exact Own.rd (Own.keep0 ‹_› hB))), (by first | rfl | exact Rd.one (by first | assumption | exact Own.rd ‹_› | exact Rd.keep0 ‹_› hB | exact Own.rd (Own.keep0 ‹_› hB))), (by first | rfl | exact Rd.one (by first | assumption | exact Own.rd ‹_› | exact Rd.keep0 ‹_› hB | exact Own.rd (Own.keep0 ‹_› hB))), (by first | rfl | exact Rd.one (by first | assumption | exact Own.rd ‹_› | exact Rd.keep0 ‹_› hB | exact Own.rd (Own.keep0 ‹_› hB))), (by first | rfl | exact Rd.one (by first | assumption | exact Own.rd ‹_› | exact Rd.keep0 ‹_› hB | exact Own.rd (Own.keep0 ‹_› hB))), (by first | rfl | exact Rd.one (by first | assumption | exact Own.rd ‹_› | exact Rd.keep0 ‹_› hB | exact Own.rd (Own.keep0 ‹_› hB))), fun v hv => by cases hv⟩) hb2 rfl) ?_
 rintro _ w9 ⟨hb3, k9, z3⟩
 replace hb1 := hb1.keep k9 (fun hm => absurd (List.mem_singleton.1 hm) ne_b1_b2)
 replace oa1 := oa1.keep k9 (fun x hx hm => sb_b2_oa1 x hx (List.mem_singleton.1 hm))
 replace ob1 := ob1.keep k9 (fun x hx hm => sb_b2_ob1 x hx (List.mem_singleton.1 hm))
 replace oc1 := oc1.keep k9 (fun x hx hm => sb_b2_oc1 x hx (List.mem_singleton.1 hm))
 replace o1 := o1.keep k9 (fun x hx hm => sb_b2_o1 x hx (List.mem_singleton.1 hm))
 replace o2 := o2.keep k9 (fun x hx hm => sb_b2_o2 x hx (List.mem_singleton.1 hm))
 replace o3 := o3.keep k9 (fun x hx hm => sb_b2_o3 x hx (List.mem_singleton.1 hm))
 replace o4 := o4.keep k9 (fun x hx hm => sb_b2_o4 x hx (List.mem_singleton.1 hm))
 replace hB := hB.new k9 (fun x hx => .inl ((List.mem_singleton.1 hx) ▸ ge_b2))
 clear z3
 replace hb3 : Bk w9 b2 _ [g1, .int .i64 i.c.ep, t1, x1, v1, v2, v3, .int .i64 i.signer, v4] := hb3
 refine ow_nil (tw_keep [(2, _)] ⟨rfl, trivial⟩ ?_)
 refine tw_retc hfin Try.results31 rfl (run_loadAgg ag86 ty86 ‹_› rfl)  ?_
 exact ⟨_, _, _, _, _, _, _, rfl, oa1.lo gl_oa1, ob1.lo gl_ob1, oc1.lo gl_oc1, o1.lo gl_o1, o2.lo gl_o2, o3.lo gl_o3, o4.lo gl_o4, hB⟩
end Go.Proofs.Ytimeclfplaonkaa.W
namespace Go.Proofs.Ytimeclfplaonkaa.W
open Go Go.Eng Go.Byt
set_option linter.unusedVariables false
set_option linter.unusedSimpArgs false
set_option maxRecDepth 100000 in
set_option maxHeartbeats 1000000 in
theorem again_any (sv iv : Value) (ss : List Tri) (info : List UInt8) (w : World) (hs : RdT w sv ss) (hi : RdB w iv info) (hsm : ∀ x ∈ ss, x.1.length ≤ 140737488351232 ∧ x.2.1.length ≤ 140737488351232 ∧ x.2.2.length ≤ 140737488351232) (v : Value) (c : List UInt8) (hv : RdB w v c) : Rets Try.prog 45 [.agg [sv, iv].toArray, .func (.func 9) #[] #[], v] w (fun r w' => r = .tuple #[.agg (bif (welOk ss info && decide (welB ss info = c)) then [sv, iv] else [.slice none 0 0, .slice none 0 0]).toArray, .int .i64 (bif (welOk ss info && decide (welB ss info = c)) then 0 else 21)] ∧ Keep [] w w') := by
 have hB : Keep [] w w := Keep.refl _ _
 have hs' := hs
 obtain ⟨css, hEl, hsl⟩ := hs'
 refine rets_of_tw Try.func45 rfl (by decide) Try.ntmps45 rfl (fun fin _ hfin => ?_)
 refine tw_seq (tw_region (ow_d (d_box (cs := [sv, iv]) rfl rfl) rfl ?_))
 rintro _ w1 ⟨b1, rfl, eb1, hb1, k1, z1⟩
 have ge_b1 : w.heap.size ≤ b1 := by have := hB.size; omega
 replace hB := hB.trans k1
 clear eb1 z1
 refine ow_d (d_alloc ty29) rfl ?_
 rintro _ w2 ⟨b2, rfl, eb2, hb2, k2, z2⟩
 have ge_b2 : w.heap.size ≤ b2 := by have := hB.size; omega
 have ne_b1_b2 : b1 ≠ b2 := by have := hb1.lt; omega
 replace hb1 := hb1.keep0 k2
 replace hB := hB.trans k2
 clear eb2 z2
 refine ow_g (g_as rfl) rfl (ow_nil (tw_seq (tw_region (ow_d (d_alloc ty29) rfl ?_))))
 rintro _ w3 ⟨b3, rfl, eb3, hb3, k3, z3⟩
 have ge_b3 : w.heap.size ≤ b3 := by have := hB.size; omega
 have ne_b1_b3 : b1 ≠ b3 := by have := hb1.lt; omega
 have ne_b2_b3 : b2 ≠ b3 := by have := hb2.lt; omega
 replace hb1 := hb1.keep0 k3
 replace hb2 := hb2.keep0 k3
 replace hB := hB.trans k3
 clear eb3 z3
 refine ow_nil (tw_seq (tw_seq (tw_region (ow_g (g_mv rfl) rfl (ow_g (g_ldab (cs' := [_, _]) ag29 ty29 rfl hb1 rfl rfl) rfl ?_)))))
 refine ow_d (d_callv rfl rfl (gput_any sv iv ss info _ (RdT.keep0 hs hB) (Rd.keep0 hi hB) hsm)) rfl ?_
 rintro _ w4 ⟨v1, rfl, o1, k4⟩
 have gl_o1 := hB.size
 have sb_b1_o1 := fun x hx => (show x ≠ b1 from by have h1 := (o1.blk x hx).1; have h2 := hb1.lt; omega)
 have sb_b2_o1 := fun x hx => (show x ≠ b2 from by have h1 := (o1.blk x hx).1; have h2 := hb2.lt; omega)
 have sb_b3_o1 := fun x hx => (show x ≠ b3 from by have h1 := (o1.blk x hx).1; have h2 := hb3.lt; omega)
 replace hb1 := hb1.keep0 k4
 replace hb2 := hb2.keep0 k4
 replace hb3 := hb3.keep0 k4
 replace hB := hB.trans k4
 have u_o1 := o1.blk
 refine ow_g (g_mv rfl) rfl (ow_g (g_ext (vs := [_, _]) rfl rfl) rfl ?_)
 refine ow_g (g_ext (vs := [_, _]) rfl rfl) rfl ?_
 refine ow_g (g_as rfl) rfl (ow_g (g_as rfl) rfl (ow_nil (tw_seq (tw_region (ow_g (g_mv rfl) rfl (ow_g (g_ne rfl rfl) rfl ?_))))))
 refine ow_g (g_mv rfl) rfl (ow_grp 19 false rfl (fun c1 hgc1 => ?_))
 refine ow_gg [(9, _)] (grd1 rfl rfl rfl hgc1) ⟨und0 rfl, trivial⟩ (fun hw1 => g_mv rfl) rfl ?_
 refine ow_gg [(2, _)] (grd1 rfl rfl rfl hgc1) ⟨und0 rfl, trivial⟩ (fun hw2 => g_mv rfl) rfl ?_
 refine ow_gds [(20, _), (21, _)] (grd1 rfl rfl rfl hgc1) ⟨und1 rfl, und1 rfl, trivial⟩ (fun hw3 => d_call (vs := [_, _]) rfl (beq_any _ _ (welB ss info) c _ (o1.rd) (by first | assumption | exact Own.rd ‹_› | exact Rd.keep0 ‹_› hB | exact Own.rd (Own.keep0 ‹_› hB)))) rfl ?_
 refine ow_gg [(22, _)] (grd1 rfl rfl rfl hgc1) ⟨und1 rfl, trivial⟩ (fun hw4 => g_notd rfl) rfl ?_
 refine ow_g (g_por rfl rfl hgc1) rfl ?_
 refine ow_nil (tw_keep [(3, _), (6, _), (8, _), (24, _)] ⟨rfl, rfl, rfl, rfl, trivial⟩ ?_)
 refine tw_cond rfl (fun hc1 => ?_) (fun hc1 => ?_)
 ·
  have hd1 := hc1
  try (simp only [Bool.and_eq_true, Bool.or_eq_true, decide_eq_true_eq, Bool.and_eq_false_iff, Bool.or_eq_false_iff, decide_eq_false_iff_not, Bool.not_eq_true', Bool.not_eq_false', Bool.not_eq_true, Bool.not_eq_false, ne_eq, Decidable.not_not, decide_true, decide_false, Bool.true_and, Bool.false_and, Bool.or_false, Bool.false_or, not_true_eq_false, false_or, or_false, true_and, and_true, not_false_eq_true, reduceCtorEq] at hd1)
  refine tw_seq (tw_region (ow_g (g_ldab (cs' := [_, _]) ag29 ty29 rfl hb3 rfl rfl) rfl ?_))
  refine ow_d0 (d_sta ty29 rfl rfl rfl (by simp only [List.forall_mem_cons]; refine ⟨rfl, rfl, fun v hv => by cases hv⟩) hb2 rfl) ?_
  rintro _ w5 ⟨hb4, k5, z4⟩
  replace hb1 := hb1.keep k5 (fun hm => absurd (List.mem_singleton.1 hm) ne_b1_b2)
  replace hb3 := hb3.keep k5 (fun hm => absurd (List.mem_singleton.1 hm) (Ne.symm ne_b2_b3))
  replace o1 := o1.keep k5 (fun x hx hm => sb_b2_o1 x hx (List.mem_singleton.1 hm))
  replace hB := hB.new k5 (fun x hx => .inl ((List.mem_singleton.1 hx) ▸ ge_b2))
  clear z4
  replace hb4 : Bk w5 b2 _ [.slice none 0 0, .slice none 0 0] := hb4
  refine ow_g (g_as rfl) rfl (ow_nil (tw_retct hfin Try.results45 rfl (run_loadAgg ag29 ty29 ‹_› rfl) rfl ?_))
  have hok : (welOk ss info && decide (welB ss info = c)) = false := by
   unfold welE at hc1
   cases hw : welOk ss info <;> simp_all
  exact ⟨by rw [hok]; rfl, hB⟩
 ·
  have hd2 := hc1
  try (simp only [Bool.and_eq_true, Bool.or_eq_true, decide_eq_true_eq, Bool.and_eq_false_iff, Bool.or_eq_false_iff, decide_eq_false_iff_not, Bool.not_eq_true', Bool.not_eq_false', Bool.not_eq_true, Bool.not_eq_false, ne_eq, Decidable.not_not, decide_true, decide_false, Bool.true_and, Bool.false_and, Bool.or_false, Bool.false_or, not_true_eq_false, false_or, or_false, true_and, and_true, not_false_eq_true, reduceCtorEq] at hd2)
  refine tw_skip (tw_seq (tw_region (ow_g (g_ldab (cs' := [_, _]) ag29 ty29 rfl hb1 rfl rfl) rfl ?_)))
  refine ow_d0 (d_sta ty29 rfl rfl rfl (by simp only [List.forall_mem_cons]; refine ⟨Rd.one hsl, Rd.one hi, fun v hv => by cases hv⟩) hb2 rfl) ?_
  rintro _ w6 ⟨hb5, k6, z5⟩
  replace hb1 := hb1.keep k6 (fun hm => absurd (List.mem_singleton.1 hm) ne_b1_b2)
  replace hb3 := hb3.keep k6 (fun hm => absurd (List.mem_singleton.1 hm) (Ne.symm ne_b2_b3))
  replace o1 := o1.keep k6 (fun x hx hm => sb_b2_o1 x hx (List.mem_singleton.1 hm))
  replace hB := hB.new k6 (fun x hx => .inl ((List.mem_singleton.1 hx) ▸ ge_b2))
  clear z5
  replace hb5 : Bk w6 b2 _ [sv, iv] := hb5
  refine ow_g (g_as rfl) rfl (ow_nil (tw_retct hfin Try.results45 rfl (run_loadAgg ag29 ty29 ‹_› rfl) rfl ?_))
  have hok : (welOk ss info && decide (welB ss info = c)) = true := by
   unfold welE at hc1
   cases hw : welOk ss info <;> simp_all
  exact ⟨by rw [hok]; rfl, hB⟩
end Go.Proofs.Ytimeclfplaonkaa.W
namespace Go.Proofs.Ytimeclfplaonkaa.W
open Go Go.Eng Go.Byt
set_option linter.unusedVariables false
set_option linter.unusedSimpArgs false
theorem again_k (sv iv : Value) (ss : List Tri) (info : List UInt8) (w : World) (hs : RdT w sv ss) (hi : RdB w iv info) (hsm : ∀ x ∈ ss, x.1.length ≤ 140737488351232 ∧ x.2.1.length ≤ 140737488351232 ∧ x.2.2.length ≤ 140737488351232) (v : Value) (c : List UInt8) (hv : RdB w v c) : Rets Try.prog 45 [.agg [sv, iv].toArray, .func (.func 9) #[] #[], v] w (fun r w' => ∃ q u, r = .tuple #[.agg [q, u].toArray, .int .i64 (bif (welOk ss info && decide (welB ss info = c)) then 0 else 21)] ∧ q.oneCell' = true ∧ u.oneCell' = true ∧ ((welOk ss info && decide (welB ss info = c)) = true ∧ q = sv ∧ u = iv ∨ (welOk ss info && decide (welB ss info = c)) = false ∧ q = .slice none 0 0 ∧ u = .slice none 0 0) ∧ Keep [] w w') := by
  have h1 : sv.oneCell' = true := by obtain ⟨_, _, h⟩ := hs; exact h.one
  refine (again_any sv iv ss info w hs hi hsm v c hv).mono fun r w' ⟨h, k⟩ => ?_
  cases hOK : (welOk ss info && decide (welB ss info = c))
  · rw [hOK] at h; exact ⟨_, _, h, rfl, rfl, .inr ⟨rfl, rfl, rfl⟩, k⟩
  · rw [hOK] at h; exact ⟨_, _, h, h1, hi.one, .inl ⟨rfl, rfl, rfl⟩, k⟩
theorem rdT_nil (w : World) : RdT w (.slice none 0 0) [] := ⟨[], els_nil _ _, Rd.nil _ _⟩
set_option maxRecDepth 100000 in
set_option maxHeartbeats 1000000 in
theorem getw_any (v : Value) (c : List UInt8) (w : World) (hv : RdB w v c) (hc : c.length ≤ 140737488351232) : Rets Try.prog 11 [v] w (fun r w' => ∃ q u, r = .tuple #[.agg [q, u].toArray, .int .i64 (getE c)] ∧ RdT w' q (getS c) ∧ RdB w' u (getI c) ∧ Keep [] w w') := by
  have hB : Keep [] w w := Keep.refl _ _
  refine rets_of_tw Try.func11 rfl (by decide) Try.ntmps11 rfl (fun fin _ hfin => ?_)
  refine tw_seq ?_
  refine tw_region ?_
  refine ow_d (d_alloc ty29) rfl ?_
  rintro _ w1 ⟨b1, rfl, eb1, hb1, k1, z1⟩
  have ge_b1 : w.heap.size ≤ b1 := by have := hB.size; omega
  replace hB := hB.trans k1
  clear eb1 z1
  refine ow_g (g_as rfl) rfl ?_
  refine ow_nil ?_
  refine tw_seq ?_
  refine tw_region ?_
  refine ow_g (g_mv rfl) rfl ?_
  have zb1 := hb1.lt; have hs8 := hB.size
  refine ow_d (d_call (vs := [_]) rfl (newL_any _ c _ (by first | assumption | exact Own.rd (by assumption) | exact Rd.keep0 (by assumption) hB | exact Own.rd (Own.keep0 (by assumption) hB)) (by omega))) rfl ?_
  rintro _ w2 ⟨p1, rfl, rr, k2⟩
  replace hb1 := hb1.keep0 k2
  replace hB := hB.trans k2
  have gp1 := rr.1
  replace rr := rr.rdr
  refine ow_g (g_as rfl) rfl ?_
  refine ow_nil ?_
  refine tw_seq ?_
  refine tw_region ?_
  refine ow_g (g_mv rfl) rfl ?_
  refine ow_d (d_call (vs := [_]) rfl (vector_any _ c 0 _ rr (by omega))) rfl ?_
  rintro jw w3 ⟨_, rfl, ov1, rr, km1⟩
  have z_km1 := km1.size
  replace hb1 := hb1.keep km1 (fun hm => by have h9 := List.mem_singleton.1 hm; omega)
  replace hB := hB.new km1 (fun x hm => .inl (by have h9 := List.mem_singleton.1 hm; omega))
  have lt11 := rr.lt; have hlq := rVec_out c 0
  refine ow_d (d_call (vs := [_]) rfl (newL_any _ (rVec c 0).1 _ ov1.rd (by omega))) rfl ?_
  rintro _ w4 ⟨p2, rfl, rl, k3⟩
  replace hb1 := hb1.keep0 k3
  replace rr := rr.keep0 k3
  replace hB := hB.trans k3
  have gp2 := rl.1
  refine ow_g (g_as rfl) rfl ?_
  refine ow_nil ?_
  refine tw_seq ?_
  refine tw_region ?_
  refine ow_g (g_mv rfl) rfl ?_
  have lt13 := rl.rdr.lt
  refine ow_d (d_call (vs := [_]) rfl (vector_any _ _ _ _ rr (by have h1 := rVec_len c 0; omega))) rfl ?_
  rintro iw w5 ⟨_, rfl, o2, rr, km2⟩
  have z_km2 := km2.size
  replace hb1 := hb1.keep km2 (fun hm => by have h9 := List.mem_singleton.1 hm; omega)
  replace rl := rl.keep km2 (fun x hx hm => by have h9 := List.mem_singleton.1 hm; omega)
  replace hB := hB.new km2 (fun x hm => .inl (by have h9 := List.mem_singleton.1 hm; omega))
  have np_ovi : ∀ x, x ∈ vblk iw → p2 < x := fun x hx => by have := (o2.blk x hx).1; omega
  have gl_o2 := hB.size
  have go2 : ∀ x, x ∈ vblk iw → w.heap.size ≤ x := fun x hx => by have := np_ovi x hx; omega
  replace rl := rl.rdr
  refine ow_g (g_bld (idx := [1]) (xs := [.tmp 13]) (vs := [_]) (css := [[_]]) (out := [_, _]) pl29 ty29 rfl rfl ⟨Rd.cells (by first | assumption | exact Own.rd (by assumption) | exact Rd.keep0 (by assumption) hB | exact Own.rd (Own.keep0 (by assumption) hB)), trivial⟩ rfl rfl) rfl ?_
  have lt14 := rl.lt
  refine ow_d (d_alloc ty29) rfl ?_
  rintro _ w6 ⟨b2, rfl, eb2, hb2, k4, z2⟩
  have zp2 : p2 < b2 := by omega
  have ge_b2 : w.heap.size ≤ b2 := by have := hB.size; omega
  have ne_b1_b2 : b1 ≠ b2 := by have := hb1.lt; omega
  have sb_b2_o2 := fun x hx => (show x ≠ b2 from by have := (o2.blk x hx).2; omega)
  replace hb1 := hb1.keep0 k4
  replace rl := rl.keep0 k4
  replace o2 := o2.keep0 k4
  replace hB := hB.trans k4
  clear eb2 z2
  refine ow_d0 (d_sta ty29 rfl rfl rfl (by simp only [List.forall_mem_cons]; refine ⟨(by first | rfl | exact Rd.one (by first | assumption | exact Own.rd (by assumption) | exact Rd.keep0 (by assumption) hB | exact Own.rd (Own.keep0 (by assumption) hB))), (by first | rfl | exact Rd.one (by first | assumption | exact Own.rd (by assumption) | exact Rd.keep0 (by assumption) hB | exact Own.rd (Own.keep0 (by assumption) hB))), fun v hv => by cases hv⟩) hb2 rfl) ?_
  rintro _ w7 ⟨hb3, k5, z3⟩
  replace hb1 := hb1.keep k5 (fun hm => absurd (List.mem_singleton.1 hm) ne_b1_b2)
  replace rl := rl.keep k5 (fun x hx hm => (fun x (hx : x ≤ p2) => (show x ≠ b2 from by omega)) x hx (List.mem_singleton.1 hm))
  replace o2 := o2.keep k5 (fun x hx hm => sb_b2_o2 x hx (List.mem_singleton.1 hm))
  replace hB := hB.new k5 (fun x hx => .inl ((List.mem_singleton.1 hx) ▸ ge_b2))
  clear z3
  replace hb3 : Bk w7 b2 _ [.slice none 0 0, iw] := hb3
  refine ow_nil ?_
  refine tw_keep [(0, _), (2, _), (5, _), (6, _)] ⟨rfl, rfl, rfl, rfl, trivial⟩ ?_
  refine tw_seq ?_
  refine tw_block ?_
  obtain ⟨Z, hZ⟩ : ∃ Z, Z = w7.heap.size := ⟨_, rfl⟩
  have zc1 : b1 < Z := by have := hb1.lt; omega
  have zc2 : b2 < Z := by have := hb3.lt; omega
  have zp3 : p2 < Z := by omega
  have zo_ovi : ∀ x, x ∈ vblk iw → x < Z := fun x hx => by have := (o2.blk x hx).2; omega
  have zw := hB.size
  rw [← hZ] at zw
  have hqo := rVec_out c 0; have hio := rVec_out (rVec c 0).2.1 (rVec c 0).2.2
  refine tw_loop (Γ := Value × List Tri × List UInt8 × Int) (fun ⟨q, xs, rest, e⟩ => [(0, v), (2, .pointer (some ⟨b1, 0, none⟩)), (5, .pointer (some ⟨p2, 0, none⟩)), (6, .pointer (some ⟨b2, 0, none⟩))]) (fun ⟨q, xs, rest, e⟩ W => TriJ (rVec c 0).1 xs rest e ∧ (∀ x ∈ xs, x.1.length ≤ 65536 ∧ x.2.1.length ≤ 65536 ∧ x.2.2.length ≤ 65536) ∧ OwT 5 W Z 98 q xs ∧ OwnB W 0 iw (rVec (rVec c 0).2.1 (rVec c 0).2.2).1 ∧ Bk W b1 29 [.slice none 0 0, .slice none 0 0] ∧ Bk W b2 29 [q, iw] ∧ Rdr W p2 rest e ∧ Z ≤ W.heap.size ∧ Keep [] w W) (fun ⟨q, xs, rest, e⟩ => triM rest e) ⟨.slice none 0 0, [], _, 0⟩ ⟨rfl, rfl, rfl, rfl, trivial⟩ (⟨triJ_start _, small_nil, owT_nil _ _ _ _, o2.lo (Nat.zero_le _), hb1, hb3, rl, by omega, hB⟩) ?_
  rintro ⟨q, xs, rest, e⟩ w8 ⟨hJ, hsm, ot, ovi, hbx1, hbx2, rl, hsz, hB⟩
  refine tw_keep [(0, v), (2, .pointer (some ⟨b1, 0, none⟩)), (5, .pointer (some ⟨p2, 0, none⟩)), (6, .pointer (some ⟨b2, 0, none⟩))] ⟨rfl, rfl, rfl, rfl, trivial⟩ ?_
  have u_ot := ot.blk
  have u_ovi := ovi.blk
  have hJ2 : xs.length + rest.length ≤ (rVec c 0).1.length + 1 := Nat.le_trans hJ.2 (by split <;> omega)
  refine tw_seq ?_
  refine tw_seq ?_
  refine tw_region ?_
  refine ow_g (g_mv rfl) rfl ?_
  refine ow_d (d_call (vs := [_]) rfl (left_any _ _ _ _ rl)) rfl ?_
  rintro _ _ ⟨rfl, rfl⟩
  refine ow_g (g_gt rfl rfl) rfl ?_
  refine ow_g (g_mv rfl) rfl ?_
  refine ow_grp 18 true rfl (fun c1 hgc1 => ?_)
  refine ow_gg [(5, _)] (grd1 rfl rfl rfl hgc1) ⟨und0 rfl, trivial⟩ (fun hw1 => g_mv rfl) rfl ?_
  refine ow_gds [(19, _)] (grd1 rfl rfl rfl hgc1) ⟨und1 rfl, trivial⟩ (fun hw2 => d_call (vs := [_]) rfl (err_any _ _ _ _ rl)) rfl ?_
  refine ow_gg [(20, _)] (grd1 rfl rfl rfl hgc1) ⟨und1 rfl, trivial⟩ (fun hw3 => g_eq rfl rfl) rfl ?_
  refine ow_g (g_pand rfl rfl hgc1) rfl ?_
  refine ow_nil ?_
  refine tw_cond rfl (fun hc1 => ?_) (fun hc1 => ?_)
  · -- yes
    have hd1 := hc1
    try (simp only [Bool.and_eq_true, Bool.or_eq_true, decide_eq_true_eq, Bool.and_eq_false_iff, Bool.or_eq_false_iff, decide_eq_false_iff_not, Bool.not_eq_true', Bool.not_eq_false', Bool.not_eq_true, Bool.not_eq_false, ne_eq, Decidable.not_not, decide_true, decide_false, Bool.true_and, Bool.false_and, Bool.or_false, Bool.false_or, not_true_eq_false, false_or, or_false, true_and, and_true, not_false_eq_true, reduceCtorEq] at hd1)
    refine tw_skip ?_
    refine tw_block ?_
    refine tw_planA 10 [0, 1, 2, 4, 6, 3, 5, 7, 8, 9] [3, 5, 7, 9] [p2] [] mixed [(6, _), (5, _), (0, _), (2, _)] ⟨rfl, rfl, rfl, rfl, trivial⟩ (by decide +kernel) (by decide) (by decide) ?_ (fun x hx => by have h9 := List.mem_singleton.1 hx; have := rl.lt; omega) rfl (fun w9 k6 => ?_)
    · intro q hq; cases hq
    replace ot := ot.keep0 k6
    replace ovi := ovi.keep0 k6
    replace hbx1 := hbx1.keep0 k6
    replace hbx2 := hbx2.keep0 k6
    replace rl := rl.keep0 k6
    replace hB := hB.trans k6
    have hqb := ot.blk; have lp2 := rl.lt; have hsw := hsz
    refine pa_g [(6, _)] rfl rfl ⟨rfl, trivial⟩ rfl (fun W' kk => g_faE 0 Try.underlying29 rfl ty27 (by decide) rfl rfl) ?_
    refine pa_g [(23, _)] rfl rfl ⟨rfl, trivial⟩ rfl (fun W' kk => g_ldb sc27 rfl (Bk.keep hbx2 kk (by simp only [List.mem_cons, List.not_mem_nil, or_false]; first | assumption | (apply Ne.symm; assumption) | omega)) rfl) ?_
    refine pa_g [(5, _)] rfl rfl ⟨rfl, trivial⟩ rfl (fun W' kk => g_mv rfl) ?_
    refine pa_g [(5, _)] rfl rfl ⟨rfl, trivial⟩ rfl (fun W' kk => g_mv rfl) ?_
    refine pa_g [(5, _)] rfl rfl ⟨rfl, trivial⟩ rfl (fun W' kk => g_mv rfl) ?_
    refine pa_d [(25, _)] rfl rfl ⟨rfl, trivial⟩ rfl (fun w11 k7 => ?_)
    replace ot := ot.keep0 k7
    replace ovi := ovi.keep0 k7
    replace hbx1 := hbx1.keep0 k7
    replace hbx2 := hbx2.keep0 k7
    replace rl := rl.keep0 k7
    replace hB := hB.trans k7
    refine (d_call (vs := [_]) rfl (vector_any _ _ _ _ rl (by have h1 := rVec_len rest e; omega))).mono ?_
    rintro v1 w10 ⟨_, rfl, o1, R1, km3⟩
    refine ⟨km3, (fun x hx => ⟨.inr (o1.blk x (o1.rd.cblk ▸ hx)).1, (o1.blk x (o1.rd.cblk ▸ hx)).2⟩), ?_⟩
    have zk6 := k6.size
    have zk7 := k7.size
    have z_km3 := km3.size
    replace ot := ot.keepL km3 (fun x hm => by have h9 := List.mem_singleton.1 hm; omega)
    replace ovi := ovi.keep km3 (fun x hx hm => by have h9 := List.mem_singleton.1 hm; have h8 := np_ovi x hx; omega)
    replace hbx1 := hbx1.keep km3 (fun hm => by have h9 := List.mem_singleton.1 hm; omega)
    replace hbx2 := hbx2.keep km3 (fun hm => by have h9 := List.mem_singleton.1 hm; omega)
    replace hB := hB.new km3 (fun x hm => .inl (by have h9 := List.mem_singleton.1 hm; omega))
    replace rl := R1
    refine pa_d [(27, _)] rfl rfl ⟨rfl, trivial⟩ rfl (fun w13 k8 => ?_)
    replace ot := ot.keep0 k8
    replace ovi := ovi.keep0 k8
    replace hbx1 := hbx1.keep0 k8
    replace hbx2 := hbx2.keep0 k8
    replace rl := rl.keep0 k8
    replace o1 := o1.keep0 k8
    replace hB := hB.trans k8
    refine (d_call (vs := [_]) rfl (vector_any _ _ _ _ rl (by have h1 := rVec_len rest e; omega))).mono ?_
    rintro v2 w12 ⟨_, rfl, o2, R2, km4⟩
    refine ⟨km4, (fun x hx => ⟨.inr (o2.blk x (o2.rd.cblk ▸ hx)).1, (o2.blk x (o2.rd.cblk ▸ hx)).2⟩), ?_⟩
    have zk8 := k8.size
    have z_km4 := km4.size
    replace ot := ot.keepL km4 (fun x hm => by have h9 := List.mem_singleton.1 hm; omega)
    replace ovi := ovi.keep km4 (fun x hx hm => by have h9 := List.mem_singleton.1 hm; have h8 := np_ovi x hx; omega)
    replace hbx1 := hbx1.keep km4 (fun hm => by have h9 := List.mem_singleton.1 hm; omega)
    replace hbx2 := hbx2.keep km4 (fun hm => by have h9 := List.mem_singleton.1 hm; omega)
    replace o1 := o1.keep km4 (fun x hx hm => by have h9 := List.mem_singleton.1 hm; have h8 := (o1.blk x hx).1; omega)
    replace hB := hB.new km4 (fun x hm => .inl (by have h9 := List.mem_singleton.1 hm; omega))
    replace rl := R2
    refine pa_d [(29, _)] rfl rfl ⟨rfl, trivial⟩ rfl (fun w15 k9 => ?_)
    replace ot := ot.keep0 k9
    replace ovi := ovi.keep0 k9
    replace hbx1 := hbx1.keep0 k9
    replace hbx2 := hbx2.keep0 k9
    replace rl := rl.keep0 k9
    replace o1 := o1.keep0 k9
    replace o2 := o2.keep0 k9
    replace hB := hB.trans k9
    refine (d_call (vs := [_]) rfl (vector_any _ _ _ _ rl (by have h1 := rVec_len rest e; have h2 := rVec_len (rVec rest e).2.1 (rVec rest e).2.2; omega))).mono ?_
    rintro v3 w14 ⟨_, rfl, o3, R3, km5⟩
    refine ⟨km5, (fun x hx => ⟨.inr (o3.blk x (o3.rd.cblk ▸ hx)).1, (o3.blk x (o3.rd.cblk ▸ hx)).2⟩), ?_⟩
    have zk9 := k9.size
    have z_km5 := km5.size
    replace ot := ot.keepL km5 (fun x hm => by have h9 := List.mem_singleton.1 hm; omega)
    replace ovi := ovi.keep km5 (fun x hx hm => by have h9 := List.mem_singleton.1 hm; have h8 := np_ovi x hx; omega)
    replace hbx1 := hbx1.keep km5 (fun hm => by have h9 := List.mem_singleton.1 hm; omega)
    replace hbx2 := hbx2.keep km5 (fun hm => by have h9 := List.mem_singleton.1 hm; omega)
    replace o1 := o1.keep km5 (fun x hx hm => by have h9 := List.mem_singleton.1 hm; have h8 := (o1.blk x hx).1; omega)
    replace o2 := o2.keep km5 (fun x hx hm => by have h9 := List.mem_singleton.1 hm; have h8 := (o2.blk x hx).1; omega)
    replace hB := hB.new km5 (fun x hm => .inl (by have h9 := List.mem_singleton.1 hm; omega))
    replace rl := R3
    refine pa_g [(26, _), (28, _), (30, _)] rfl rfl ⟨rfl, rfl, rfl, trivial⟩ rfl (fun W' kk => g_bld (idx := [0, 1, 2]) (xs := [.tmp 26, .tmp 28, .tmp 30]) (vs := [_, _, _]) (css := [[_], [_], [_]]) (out := [v1, v2, v3]) pl98 ty98 rfl rfl ⟨Rd.cells (Own.rd o1), Rd.cells (Own.rd o2), Rd.cells (Own.rd o3), trivial⟩ rfl rfl) ?_
    refine pa_d [(31, _)] rfl rfl ⟨rfl, trivial⟩ rfl (fun w17 k11 => ?_)
    replace ot := ot.keep0 k11
    replace ovi := ovi.keep0 k11
    replace hbx1 := hbx1.keep0 k11
    replace hbx2 := hbx2.keep0 k11
    replace rl := rl.keep0 k11
    replace o1 := o1.keep0 k11
    replace o2 := o2.keep0 k11
    replace o3 := o3.keep0 k11
    replace hB := hB.trans k11
    refine (d_bs (m := 1) (xs := [.tmp 31]) (vs := [_]) Try.underlying27 ty98 (by decide) rfl rfl rfl (by first | (simp; done) | (intro v hv; rw [List.mem_singleton] at hv; subst hv; rfl)) (by decide)).mono ?_
    rintro v4 w16 ⟨o4, nn1, lb1, k10, z4⟩
    refine ⟨k10.weak, (fun x hx => ⟨.inr (o4.blk x (o4.rd.cblk ▸ hx)).1, (o4.blk x (o4.rd.cblk ▸ hx)).2⟩), ?_⟩
    have gl_o4 := hB.size
    have sb_b1_o4 := fun x hx => (show x ≠ b1 from by have h1 := (o4.blk x hx).1; have h2 := hbx1.lt; omega)
    have sb_b2_o4 := fun x hx => (show x ≠ b2 from by have h1 := (o4.blk x hx).1; have h2 := hbx2.lt; omega)
    replace ot := ot.keep0 k10
    replace ovi := ovi.keep0 k10
    replace hbx1 := hbx1.keep0 k10
    replace hbx2 := hbx2.keep0 k10
    replace rl := rl.keep0 k10
    replace o1 := o1.keep0 k10
    replace o2 := o2.keep0 k10
    replace o3 := o3.keep0 k10
    replace hB := hB.trans k10
    have u_o4 := o4.blk
    refine pa_nil (fun w18 k12 => ?_)
    replace ot := ot.keep0 k12
    replace ovi := ovi.keep0 k12
    replace hbx1 := hbx1.keep0 k12
    replace hbx2 := hbx2.keep0 k12
    replace rl := rl.keep0 k12
    replace o1 := o1.keep0 k12
    replace o2 := o2.keep0 k12
    replace o3 := o3.keep0 k12
    replace o4 := o4.keep0 k12
    replace hB := hB.trans k12
    refine fina_nil ?_
    have zk10 := k10.size
    have zk11 := k11.size
    have zk12 := k12.size
    have hob : Rd _ 3 _ 1 [v1, v2, v3] := o4.rd
    refine ow_d (d_appT (t8 := 5) (z := (tri1 rest e).1) Try.underlying27 ty98 rfl rfl ot rfl hob (o1.lo (by omega)) (o2.lo (by omega)) (o3.lo (by omega)) (fun y hy hm => by have h1 := (o1.blk y hy).1; have h2 := (hqb y hm).2; omega) (fun y hy hm => by have h1 := (o2.blk y hy).1; have h2 := (hqb y hm).2; omega) (fun y hy hm => by have h1 := (o3.blk y hy).1; have h2 := (hqb y hm).2; omega) (by omega) (by omega)) rfl ?_
    rintro q1 w19 ⟨ot1, k13, lb2⟩
    have zk_k13 := k13.size
    replace hB := hB.new k13 (fun x hx => .inl (by have := (ot.blk x hx).1; omega))
    replace ovi := ovi.keep k13 (fun x hx hm => by have h1 := (ot.blk _ hm).1; have h2 := zo_ovi x hx; omega)
    replace hbx1 := hbx1.keep k13 (fun hm => by have := (ot.blk _ hm).1; omega)
    replace hbx2 := hbx2.keep k13 (fun hm => by have := (ot.blk _ hm).1; omega)
    replace rl := rl.keep k13 (fun x hx hm => by have := (ot.blk _ hm).1; omega)
    refine ow_g (g_faE 0 Try.underlying29 rfl ty27 (by decide) rfl rfl) rfl ?_
    refine ow_d0 (d_st ty27 rfl rfl ot1.one hbx2 rfl) ?_
    rintro _ w20 ⟨hb4, k14, z5⟩
    have zk_k14 := k14.size
    replace ovi := ovi.keep k14 (fun x hx hm => sb_b2_o2 x hx (List.mem_singleton.1 hm))
    replace hbx1 := hbx1.keep k14 (fun hm => absurd (List.mem_singleton.1 hm) ne_b1_b2)
    replace ot1 := ot1.keep k14 (fun x hx hm => (fun x hx => (show x ≠ b2 from by omega)) x hx (List.mem_singleton.1 hm))
    replace rl := rl.keep k14 (fun x hx hm => (fun x (hx : x ≤ p2) => (show x ≠ b2 from by omega)) x hx (List.mem_singleton.1 hm))
    replace hB := hB.new k14 (fun x hx => .inl ((List.mem_singleton.1 hx) ▸ ge_b2))
    replace hb4 : Bk w20 b2 _ [q1, iw] := hb4
    clear z5
    refine ow_nil ?_
    refine tw_keep [(6, _), (5, _), (0, _), (2, _)] ⟨rfl, rfl, rfl, rfl, trivial⟩ ?_
    refine tw_b ?_
    have hlt := triM_less (rest := rest) (e := e) (by omega) (by omega)
    refine tw_inv (Γ := Value × List Tri × List UInt8 × Int) ⟨q1, _, _, _⟩ ⟨rfl, rfl, rfl, rfl, trivial⟩ (by (try dsimp only); omega) (⟨triJ_step hJ (by omega) (by omega), small_step hsm rest e, ot1, ovi, hbx1, hb4, rl, by omega, hB⟩)
  · -- no
    have hd2 := hc1
    try (simp only [Bool.and_eq_true, Bool.or_eq_true, decide_eq_true_eq, Bool.and_eq_false_iff, Bool.or_eq_false_iff, decide_eq_false_iff_not, Bool.not_eq_true', Bool.not_eq_false', Bool.not_eq_true, Bool.not_eq_false, ne_eq, Decidable.not_not, decide_true, decide_false, Bool.true_and, Bool.false_and, Bool.or_false, Bool.false_or, not_true_eq_false, false_or, or_false, true_and, and_true, not_false_eq_true, reduceCtorEq] at hd2)
    refine tw_exit rfl ?_
    refine tw_seq ?_
    refine tw_region ?_
    refine ow_g (g_ldab (cs' := [_, _]) ag29 ty29 rfl hbx2 rfl rfl) rfl ?_
    refine ow_g (g_mv rfl) rfl ?_
    have hend := triI_end hJ.1 (by omega)
    have hgo := getOk_1 hend
    have hwp := welP_1 hend
    refine ow_d (d_call (vs := [_, _, _]) rfl (again_k q iw xs _ _ ot.rdT ovi.rd (fun x hx => by have := hsm x hx; omega) v c (by first | assumption | exact Own.rd (by assumption) | exact Rd.keep0 (by assumption) hB | exact Own.rd (Own.keep0 (by assumption) hB)))) rfl ?_
    rintro _ w21 ⟨q3, u3, rfl, oq3, ou3, hcase, k15⟩
    replace ot := ot.keep0 k15
    replace ovi := ovi.keep0 k15
    replace hbx1 := hbx1.keep0 k15
    replace hbx2 := hbx2.keep0 k15
    replace hB := hB.trans k15
    refine ow_g (g_ext (vs := [_, _]) rfl rfl) rfl ?_
    refine ow_g (g_ext (vs := [_, _]) rfl rfl) rfl ?_
    refine ow_d0 (d_sta ty29 rfl rfl rfl (by simp only [List.forall_mem_cons]; exact ⟨oq3, ou3, fun v hv => by cases hv⟩) hbx1 rfl) ?_
    rintro _ w22 ⟨hb5, k16, z6⟩
    replace ot := ot.keep k16 (fun x hx hm => (fun x hx => (show x ≠ b1 from by omega)) x hx (List.mem_singleton.1 hm))
    replace ovi := ovi.keep k16 (fun x hx hm => (fun x hx => (show x ≠ b1 from by have := np_ovi x hx; omega)) x hx (List.mem_singleton.1 hm))
    replace hbx2 := hbx2.keep k16 (fun hm => absurd (List.mem_singleton.1 hm) (Ne.symm ne_b1_b2))
    replace hB := hB.new k16 (fun x hx => .inl ((List.mem_singleton.1 hx) ▸ ge_b1))
    clear z6
    replace hb5 : Bk w22 b1 _ [q3, u3] := hb5
    refine ow_g (g_as rfl) rfl ?_
    refine ow_nil ?_
    refine tw_keep [(2, _), (3, _)] ⟨rfl, rfl, trivial⟩ ?_
    refine tw_retct hfin Try.results11 rfl (run_loadAgg ag29 ty29 (by assumption) rfl) rfl ?_
    rw [← hgo]
    rw [← hgo] at hcase
    rcases hcase with ⟨hg, rfl, rfl⟩ | ⟨hg, rfl, rfl⟩
    · exact ⟨_, _, by unfold getE; rfl, by unfold getS; rw [hg, hwp]; exact ot.rdT, by unfold getI; rw [hg, hwp]; exact ovi.rd, hB⟩
    · exact ⟨_, _, by unfold getE; rfl, by unfold getS; rw [hg]; exact rdT_nil _, by unfold getI; rw [hg]; exact Rd.nil _ _, hB⟩
end Go.Proofs.Ytimeclfplaonkaa.W
namespace Go.Proofs.Ytimeclfplaonkaa.W
open Go Go.Eng Go.Byt
set_option linter.unusedVariables false
set_option linter.unusedSimpArgs false
end Go.Proofs.Ytimeclfplaonkaa.W
namespace Go.Proofs.Ytimeclfplaonkaa.W
open Go Go.Eng Go.Byt
set_option linter.unusedVariables false
set_option linter.unusedSimpArgs false
set_option maxRecDepth 100000 in
set_option maxHeartbeats 1000000 in
theorem lent_any (v : Value) (xs : List UInt8) (w : World) (hv : RdB w v xs) (hx : xs.length ≤ 140737488351232) : Rets Try.prog 7 [v] w (fun r w' => ∃ u, r = cut u 0 xs.length 1 ∧ Own w' w.heap.size 5 1 u (xs.length + 2) (bv (xs ++ [201, 202])) ∧ Keep [] w w') := by
 have hB : Keep [] w w := Keep.refl _ _
 refine rets_of_tw Try.func7 rfl (by decide) Try.ntmps7 rfl (fun fin _ hfin => ?_)
 refine tw_seq (tw_region (ow_g (g_as rfl) rfl (ow_nil (tw_seq (tw_region ?_)))))
 have gl_oa := hB.size
 refine ow_d (d_bs0 Try.underlying23 ty5 rfl) rfl ?_
 rintro _ wg ⟨g, rfl, hge, hg0, kg⟩
 replace hB := hB.trans kg
 refine ow_g (g_mv rfl) rfl (ow_d (d_app0 (lo := w.heap.size) Try.underlying23 ty5 rfl rfl rfl hg0 (hge ▸ Nat.le_refl _) rfl (hv.keep0 hB) (by omega)) rfl ?_)
 rintro va wa ⟨oa, ka⟩
 replace hB := hB.trans ka
 refine ow_g (g_as rfl) rfl (ow_nil (tw_seq (tw_region (ow_g (g_mv rfl) rfl ?_))))
 have hlo0 : w.heap.size ≤ wa.heap.size := Nat.le_trans kg.size ka.size
 refine ow_d (d_bs (m := 2) (xs := [.const (.int .u8 (201)), .const (.int .u8 (202))]) (vs := [_, _]) Try.underlying23 ty5 (by decide) rfl rfl rfl (by simp only [List.forall_mem_cons]; exact ⟨rfl, rfl, fun v hv => by cases hv⟩) (by decide)) rfl ?_
 rintro v1 w1 ⟨o1, nn1, lb1, k1, z1⟩
 have gl_o1 := hB.size
 replace oa := oa.keep0 k1
 replace hB := hB.trans k1
 have u_o1 := o1.blk
 replace o1 : Own w1 _ _ 1 v1 2 (bv [201, 202]) := o1
 have hlo := Nat.le_trans hlo0 k1.size
 refine ow_d (d_appB Try.underlying23 ty5 rfl oa rfl (show RdB _ _ [201, 202] from o1.rd) (by show xs.length + 2 ≤ _; omega) hlo) rfl ?_
 rintro vb wb ⟨ob, kb, _, _⟩
 replace hB := hB.new kb (fun x hx => .inl (Nat.le_trans gl_oa (oa.blk x hx).1))
 refine ow_g (g_as rfl) rfl (ow_nil (tw_seq (tw_region (ow_g (g_mv rfl) rfl (ow_g (g_mv rfl) rfl (ow_g (g_len Try.underlying23 rfl (by first | assumption | exact Own.rd ‹_› | exact Rd.keep0 ‹_› hB | exact Own.rd (Own.keep0 ‹_› hB))) rfl ?_))))))
 refine ow_g (g_sl Try.underlying23 ty5 rfl ob.rd (.inl ⟨rfl, rfl⟩) (.inr ⟨_, _, rfl, rfl⟩) (by have := ob.rd.vcap; have : [(201 : UInt8), 202].length = 2 := rfl; omega)) rfl ?_
 refine ow_g (g_as rfl) rfl (ow_nil (tw_keep [(2, _)] ⟨rfl, trivial⟩ ?_))
 refine tw_ret1 hfin Try.results7 rfl ?_
 exact ⟨vb, rfl, ob.lo gl_oa, hB⟩
set_option maxRecDepth 100000 in
set_option maxHeartbeats 1000000 in
theorem stays_any (u v : Value) (xs : List UInt8) (lo : Nat) (w : World) (ho : Own w lo 5 1 u (xs.length + 2) (bv (xs ++ [201, 202]))) (hv : RdB w v xs) (hx : xs.length ≤ 140737488351232) : Rets Try.prog 15 [cut u 0 xs.length 1, v] w (fun r w' => r = .bool true ∧ Keep [] w w') := by
  have hB : Keep [] w w := Keep.refl _ _
  obtain ⟨u10, hu10⟩ : ∃ u10, u10 = cut (cut u 0 xs.length 1) (0 : Int).toNat ((xs.length : Int) + 2).toNat 1 := ⟨_, rfl⟩
  have hall : RdB w u (xs ++ [201, 202]) := by unfold RdB; rw [List.length_append]; exact ho.rd
  have h10 : RdB w u10 (xs ++ [201, 202]) := by
    have e : cut (cut u 0 xs.length 1) (0 : Int).toNat ((xs.length : Int) + 2).toNat 1 = cut u 0 (xs.length + 2) 1 := by rw [show (0 : Int).toNat = 0 from rfl, show ((xs.length : Int) + 2).toNat = xs.length + 2 by omega]; exact cut_cut hall
    rw [hu10, e]
    have h := hall.cutB (l := 0) (hi := xs.length + 2) (by omega) (by simp)
    rwa [List.drop_zero, Nat.sub_zero, List.take_of_length_le (by simp)] at h
  have h14 : RdB w (cut u10 0 xs.length 1) xs := by
    have h := h10.cutB (l := 0) (hi := xs.length) (by omega) (by simp)
    rwa [List.drop_zero, Nat.sub_zero, List.take_left' rfl] at h
  have hcap : (0 : Int) ≤ 0 ∧ (0 : Int) ≤ (xs.length : Int) + 2 ∧ (xs.length : Int) + 2 ≤ (vcap (cut u 0 xs.length 1) : Int) := by
    obtain ⟨A, c, e, h1, h2, _⟩ := hall
    subst e
    rw [List.length_append] at h1
    have h1 : xs.length + 2 ≤ c := h1
    refine ⟨Int.le_refl _, by omega, ?_⟩
    show (xs.length : Int) + 2 ≤ ((c - 0 : Nat) : Int)
    omega
  refine rets_of_tw Try.func15 rfl (by decide) Try.ntmps15 rfl (fun fin _ hfin => ?_)
  refine tw_seq ?_
  refine tw_region ?_
  refine ow_g (g_as rfl) rfl ?_
  refine ow_nil ?_
  refine tw_seq ?_
  refine tw_region ?_
  refine ow_g (g_mv rfl) rfl ?_
  refine ow_g (g_mv rfl) rfl ?_
  refine ow_g (g_len Try.underlying23 rfl (by first | assumption | exact Own.rd (by assumption) | exact Rd.keep0 (by assumption) hB | exact Own.rd (Own.keep0 (by assumption) hB))) rfl ?_
  refine ow_g (g_add rfl rfl (by omega)) rfl ?_
  refine ow_g (v := u10) (by rw [hu10]; exact g_sl Try.underlying23 ty5 rfl (lent_rd ho) (.inl ⟨rfl, rfl⟩) (.inr ⟨_, _, rfl, rfl⟩) hcap) rfl ?_
  refine ow_g (g_as rfl) rfl ?_
  refine ow_nil ?_
  refine tw_seq ?_
  refine tw_planA 26 [0, 1, 2, 3, 4, 5, 6, 7, 8, 9, 10, 11, 12, 13, 14, 15, 16, 17, 18, 19, 20, 21, 22, 23, 24, 25] [] [] [] mixed [(5, _), (1, _)] ⟨rfl, rfl, trivial⟩ (by decide +kernel) (by decide) (by decide) ?_ (fun x hx => by cases hx) rfl (fun w1 k1 => ?_)
  · intro q hq; cases hq
  replace hB := hB.trans k1
  refine pa_g [(5, _)] rfl rfl ⟨rfl, trivial⟩ rfl (fun W' kk => g_mv rfl) ?_
  refine pa_g [(1, _)] rfl rfl ⟨rfl, trivial⟩ rfl (fun W' kk => g_mv rfl) ?_
  refine pa_g [(12, _)] rfl rfl ⟨rfl, trivial⟩ rfl (fun W' kk => g_len Try.underlying23 rfl (by first | exact Rd.keep0 (by assumption) kk | exact Rd.keep0 (Own.rd (by assumption)) kk | exact Rd.keep0 (Rd.keep0 (by assumption) hB) kk | exact Rd.keep0 (Own.rd (Own.keep0 (by assumption) hB)) kk)) ?_
  refine pa_g [(11, _), (13, _)] rfl rfl ⟨rfl, rfl, trivial⟩ rfl (fun W' kk => g_sl Try.underlying23 ty5 rfl (by first | exact Rd.keep0 (by assumption) kk | exact Rd.keep0 (Own.rd (by assumption)) kk | exact Rd.keep0 (Rd.keep0 (by assumption) hB) kk | exact Rd.keep0 (Own.rd (Own.keep0 (by assumption) hB)) kk) (.inl ⟨rfl, rfl⟩) (.inr ⟨_, _, rfl, rfl⟩) (by have := h10.vcap; simp only [List.length_append, List.length_cons, List.length_nil] at this; omega)) ?_
  refine pa_g [(14, _)] rfl rfl ⟨rfl, trivial⟩ rfl (fun W' kk => g_str Try.underlying23 Try.underlying5 Try.underlying9 rfl (by first | exact Rd.keep0 (by assumption) kk | exact Rd.keep0 (Own.rd (by assumption)) kk | exact Rd.keep0 (Rd.keep0 (by assumption) hB) kk | exact Rd.keep0 (Own.rd (Own.keep0 (by assumption) hB)) kk)) ?_
  refine pa_g [(1, _)] rfl rfl ⟨rfl, trivial⟩ rfl (fun W' kk => g_mv rfl) ?_
  refine pa_g [(16, _)] rfl rfl ⟨rfl, trivial⟩ rfl (fun W' kk => g_str Try.underlying23 Try.underlying5 Try.underlying9 rfl (by first | exact Rd.keep0 (by assumption) kk | exact Rd.keep0 (Own.rd (by assumption)) kk | exact Rd.keep0 (Rd.keep0 (by assumption) hB) kk | exact Rd.keep0 (Own.rd (Own.keep0 (by assumption) hB)) kk)) ?_
  refine pa_g [(15, _), (17, _)] rfl rfl ⟨rfl, rfl, trivial⟩ rfl (fun W' kk => g_eqs rfl rfl) ?_
  refine pa_g [(18, _)] rfl rfl ⟨rfl, trivial⟩ rfl (fun W' kk => g_mv rfl) ?_
  refine pa_gt [(5, _), (19, _)] rfl rfl ⟨rfl, rfl, trivial⟩ rfl (grdT rfl rfl rfl (decide_eq_true rfl)) (fun W' kk => g_mv rfl) ?_
  refine pa_gt [(1, _), (19, _)] rfl rfl ⟨rfl, rfl, trivial⟩ rfl (grdT rfl rfl rfl (decide_eq_true rfl)) (fun W' kk => g_mv rfl) ?_
  refine pa_gt [(19, _), (21, _)] rfl rfl ⟨rfl, rfl, trivial⟩ rfl (grdT rfl rfl rfl (decide_eq_true rfl)) (fun W' kk => g_len Try.underlying23 rfl (by first | exact Rd.keep0 (by assumption) kk | exact Rd.keep0 (Own.rd (by assumption)) kk | exact Rd.keep0 (Rd.keep0 (by assumption) hB) kk | exact Rd.keep0 (Own.rd (Own.keep0 (by assumption) hB)) kk)) ?_
  refine pa_gt [(19, _), (20, _), (22, _)] rfl rfl ⟨rfl, rfl, rfl, trivial⟩ rfl (grdT rfl rfl rfl (decide_eq_true rfl)) (fun W' kk => g_ix Try.underlying23 ty5 rfl (by first | exact Rd.keep0 (by assumption) kk | exact Rd.keep0 (Own.rd (by assumption)) kk | exact Rd.keep0 (Rd.keep0 (by assumption) hB) kk | exact Rd.keep0 (Own.rd (Own.keep0 (by assumption) hB)) kk) rfl (by simp only [List.length_append, List.length_cons, List.length_nil]; omega)) ?_
  refine pa_gt [(19, _), (23, _)] rfl rfl ⟨rfl, rfl, trivial⟩ rfl (grdT rfl rfl rfl (decide_eq_true rfl)) (fun W' kk => g_ldB sc5 rfl (by first | exact Rd.keep0 (by assumption) kk | exact Rd.keep0 (Own.rd (by assumption)) kk | exact Rd.keep0 (Rd.keep0 (by assumption) hB) kk | exact Rd.keep0 (Own.rd (Own.keep0 (by assumption) hB)) kk) (by simp only [List.length_append, List.length_cons, List.length_nil]; omega)) ?_
  refine pa_gt [(19, _), (24, _)] rfl rfl ⟨rfl, rfl, trivial⟩ rfl (grdT rfl rfl rfl (decide_eq_true rfl)) (fun W' kk => g_eq rfl rfl) ?_
  refine pa_g [(19, _), (25, _)] rfl rfl ⟨rfl, rfl, trivial⟩ rfl (fun W' kk => g_pickT rfl (decide_eq_true rfl) rfl) ?_
  refine pa_g [(26, _)] rfl rfl ⟨rfl, trivial⟩ rfl (fun W' kk => g_mv rfl) ?_
  refine pa_gt [(5, _), (27, _)] rfl rfl ⟨rfl, rfl, trivial⟩ rfl (grdT rfl rfl rfl (decide_eq_true (mark1 xs))) (fun W' kk => g_mv rfl) ?_
  refine pa_gt [(1, _), (27, _)] rfl rfl ⟨rfl, rfl, trivial⟩ rfl (grdT rfl rfl rfl (decide_eq_true (mark1 xs))) (fun W' kk => g_mv rfl) ?_
  refine pa_gt [(27, _), (29, _)] rfl rfl ⟨rfl, rfl, trivial⟩ rfl (grdT rfl rfl rfl (decide_eq_true (mark1 xs))) (fun W' kk => g_len Try.underlying23 rfl (by first | exact Rd.keep0 (by assumption) kk | exact Rd.keep0 (Own.rd (by assumption)) kk | exact Rd.keep0 (Rd.keep0 (by assumption) hB) kk | exact Rd.keep0 (Own.rd (Own.keep0 (by assumption) hB)) kk)) ?_
  refine pa_gt [(27, _), (30, _)] rfl rfl ⟨rfl, rfl, trivial⟩ rfl (grdT rfl rfl rfl (decide_eq_true (mark1 xs))) (fun W' kk => g_add rfl rfl (by omega)) ?_
  refine pa_gt [(27, _), (28, _), (31, _)] rfl rfl ⟨rfl, rfl, rfl, trivial⟩ rfl (grdT rfl rfl rfl (decide_eq_true (mark1 xs))) (fun W' kk => g_ix Try.underlying23 ty5 rfl (by first | exact Rd.keep0 (by assumption) kk | exact Rd.keep0 (Own.rd (by assumption)) kk | exact Rd.keep0 (Rd.keep0 (by assumption) hB) kk | exact Rd.keep0 (Own.rd (Own.keep0 (by assumption) hB)) kk) rfl (by simp only [List.length_append, List.length_cons, List.length_nil]; omega)) ?_
  refine pa_gt [(27, _), (32, _)] rfl rfl ⟨rfl, rfl, trivial⟩ rfl (grdT rfl rfl rfl (decide_eq_true (mark1 xs))) (fun W' kk => g_ldB sc5 rfl (by first | exact Rd.keep0 (by assumption) kk | exact Rd.keep0 (Own.rd (by assumption)) kk | exact Rd.keep0 (Rd.keep0 (by assumption) hB) kk | exact Rd.keep0 (Own.rd (Own.keep0 (by assumption) hB)) kk) (by simp only [List.length_append, List.length_cons, List.length_nil]; omega)) ?_
  refine pa_gt [(27, _), (33, _)] rfl rfl ⟨rfl, rfl, trivial⟩ rfl (grdT rfl rfl rfl (decide_eq_true (mark1 xs))) (fun W' kk => g_eq rfl rfl) ?_
  refine pa_g [(27, _), (34, _)] rfl rfl ⟨rfl, rfl, trivial⟩ rfl (fun W' kk => g_pickT rfl (decide_eq_true (mark1 xs)) rfl) ?_
  refine pa_g [(35, _)] rfl rfl ⟨rfl, trivial⟩ rfl (fun W' kk => g_as rfl) ?_
  refine pa_nil (fun w2 k2 => ?_)
  replace hB := hB.trans k2
  refine fina_nil ?_
  refine ow_nil ?_
  refine tw_keep [(4, _)] ⟨rfl, trivial⟩ ?_
  refine tw_ret1 hfin Try.results15 rfl ?_
  exact ⟨by rw [decide_eq_true (mark2 xs)], hB⟩
set_option maxRecDepth 100000 in
set_option maxHeartbeats 1000000 in
theorem putb0_any (w : World) : Rets Try.prog 26 [.agg [.slice none 0 0, .slice none 0 0].toArray] w (fun v w' => ∃ u, v = .tuple #[u, .int .i64 0] ∧ OwnB w' w.heap.size u [0, 0] ∧ Keep [] w w') := by
 have hB : Keep [] w w := Keep.refl _ _
 refine rets_of_tw Try.func26 rfl (by decide) Try.ntmps26 rfl (fun fin _ hfin => ?_)
 refine tw_seq (tw_region (ow_d (d_box (cs := [.slice none 0 0, .slice none 0 0]) rfl rfl) rfl ?_))
 rintro _ w1 ⟨b1, rfl, eb1, hb1, k1, z1⟩
 have ge_b1 : w.heap.size ≤ b1 := by have := hB.size; omega
 replace hB := hB.trans k1
 clear eb1 z1
 refine ow_g (g_as rfl) rfl (ow_g (g_as rfl) rfl (ow_nil (tw_seq (tw_seq (tw_region (ow_g (g_faE 0 Try.underlying70 rfl ty68 (by decide) rfl rfl) rfl ?_))))))
 refine ow_g (g_ldb sc68 rfl hb1 rfl) rfl ?_
 refine ow_g (g_len Try.underlying68 rfl (Rd.nil _ 1)) rfl ?_
 refine ow_g (g_gt rfl rfl) rfl ?_
 refine ow_g (g_mv rfl) rfl (ow_gy (grdT rfl rfl rfl (decide_eq_false (by decide))) (g_faE 1 Try.underlying70 rfl ty23 (by decide) rfl rfl) rfl ?_)
 refine ow_gy (grdT rfl rfl rfl (decide_eq_false (by decide))) (g_ldb sc23 rfl hb1 rfl) rfl ?_
 refine ow_gy (grdT rfl rfl rfl (decide_eq_false (by decide))) (g_len Try.underlying23 rfl (Rd.nil _ 1)) rfl ?_
 refine ow_gy (grdT rfl rfl rfl (decide_eq_false (by decide))) (g_gt rfl rfl) rfl ?_
 refine ow_g (g_pickF rfl (decide_eq_false (by decide)) rfl) rfl ?_
 refine ow_nil (tw_keep [(1, _), (18, _)] ⟨rfl, rfl, trivial⟩ ?_)
 refine tw_ifF rfl (by decide) ?_
 refine tw_skip (tw_seq (tw_region (ow_g (g_as rfl) rfl (ow_nil (tw_seq (tw_seq ?_))))))
 refine tw_region (ow_g (g_faE 0 Try.underlying70 rfl ty68 (by decide) rfl rfl) rfl ?_)
 refine ow_g (g_ldb sc68 rfl hb1 rfl) rfl ?_
 refine ow_g (g_len Try.underlying68 rfl (Rd.nil _ 1)) rfl ?_
 refine ow_g (g_mv rfl) rfl (ow_nil (tw_block (tw_unroll 1 ?_)))
 refine tw_seq (tw_region (ow_g (g_lt rfl rfl) rfl ?_))
 refine ow_nil (tw_seq (tw_ifF rfl (by decide) ?_))
 refine tw_exit rfl ?_
 refine tw_seq (tw_region (ow_g (g_mv rfl) rfl (ow_g (g_faE 1 Try.underlying70 rfl ty23 (by decide) rfl rfl) rfl ?_)))
 refine ow_g (g_ldb sc23 rfl hb1 rfl) rfl ?_
 refine ow_d (d_bsL (m := 2) (ls := [[], []]) (xs := [.tmp 67, .tmp 69]) (us := [_, _]) Try.underlying102 ty23 rfl rfl (rdL_cons (by first | exact Rd.nil _ _ | exact (by first | assumption | exact Own.rd ‹_› | exact Rd.keep0 ‹_› hB | exact Own.rd (Own.keep0 ‹_› hB))) (rdL_cons (by first | exact Rd.nil _ _ | exact (by first | assumption | exact Own.rd ‹_› | exact Rd.keep0 ‹_› hB | exact Own.rd (Own.keep0 ‹_› hB))) (rdL_nil _))) rfl rfl) rfl ?_
 rintro v1 w2 ⟨sl1, k2⟩
 replace hb1 := hb1.keep0 k2
 replace hB := hB.trans k2
 refine ow_d (d_call (vs := [_]) rfl (gvectors_any _ _ _ _ ‹_› (by decide))) rfl ?_
 rintro v2 w3 ⟨o2, k3⟩
 have gl_o2 := hB.size
 have sb_b1_o2 := fun x hx => (show x ≠ b1 from by have h1 := (o2.blk x hx).1; have h2 := hb1.lt; omega)
 replace hb1 := hb1.keep0 k3
 replace sl1 := sl1.keep0 k3
 replace hB := hB.trans k3
 have u_o2 := o2.blk
 refine ow_g (g_as rfl) rfl (ow_g (g_as rfl) rfl (ow_nil (tw_keep [(2, _), (3, _)] ⟨rfl, rfl, trivial⟩ ?_)))
 refine tw_ret2 hfin Try.results26 rfl rfl ?_
 exact ⟨_, rfl, o2.lo gl_o2, hB⟩
set_option maxRecDepth 100000 in
set_option maxHeartbeats 1000000 in
theorem wknows_any (w : World) : Rets Try.prog 16 [] w (fun r w' => r = .bool true ∧ Keep [] w w') := by
 have hB : Keep [] w w := Keep.refl _ _
 refine rets_of_tw Try.func16 rfl (by decide) Try.ntmps16 rfl (fun fin _ hfin => ?_)
 refine tw_seq (tw_region (ow_g (g_as rfl) rfl (ow_nil (tw_seq (tw_region (ow_g (g_bld (idx := []) (xs := []) (vs := []) (css := []) (out := [_, _]) pl70 ty70 rfl rfl trivial rfl rfl) rfl ?_))))))
 refine ow_d (d_call (vs := [_]) rfl (putb0_any _)) rfl ?_
 rintro _ w1 ⟨u1, rfl, o1, k1⟩
 have gl_o1 := hB.size
 replace hB := hB.trans k1
 have u_o1 := o1.blk
 refine ow_g (g_mv rfl) rfl (ow_g (g_ext (vs := [_, _]) rfl rfl) rfl ?_)
 refine ow_g (g_ext (vs := [_, _]) rfl rfl) rfl ?_
 refine ow_g (g_as rfl) rfl (ow_g (g_as rfl) rfl (ow_nil (tw_seq (tw_region (ow_d (d_call (vs := [_]) rfl (getw_any _ [] _ (Rd.nil _ _) (by decide))) rfl ?_)))))
 rintro _ w2 ⟨q1, u2, rfl, Q1, U1, k2⟩
 replace o1 := o1.keep0 k2
 replace hB := hB.trans k2
 refine ow_g (g_mv rfl) rfl (ow_g (g_ext (vs := [_, _]) rfl rfl) rfl ?_)
 refine ow_g (g_ext (vs := [_, _]) rfl rfl) rfl ?_
 refine ow_d (d_alloc ty29) rfl ?_
 rintro _ w3 ⟨b1, rfl, eb1, hb1, k3, z1⟩
 have ge_b1 : w.heap.size ≤ b1 := by have := hB.size; omega
 have sb_b1_o1 := fun x hx => (show x ≠ b1 from by have := (o1.blk x hx).2; omega)
 replace o1 := o1.keep0 k3
 replace hB := hB.trans k3
 clear eb1 z1
 refine ow_d0 (d_sta ty29 rfl rfl rfl (by simp only [List.forall_mem_cons]; exact ⟨Q1.one, U1.one, fun v hv => by cases hv⟩) hb1 rfl) ?_
 rintro _ w4 ⟨hb2, k4, z2⟩
 replace o1 := o1.keep k4 (fun x hx hm => sb_b1_o1 x hx (List.mem_singleton.1 hm))
 replace hB := hB.new k4 (fun x hx => .inl ((List.mem_singleton.1 hx) ▸ ge_b1))
 clear z2
 replace hb2 : Bk w4 b1 _ [q1, u2] := hb2
 refine ow_g (g_as rfl) rfl (ow_nil (tw_keep [(1, _), (2, _), (4, _)] ⟨rfl, rfl, rfl, trivial⟩ ?_))
 refine tw_seq (tw_region (ow_g (g_mv rfl) rfl (ow_d (d_call (vs := [_]) rfl (wnum_any _ _)) rfl ?_)))
 rintro _ _ ⟨rfl, rfl⟩
 refine ow_g (g_eq rfl rfl) rfl ?_
 refine ow_g (g_mv rfl) rfl (ow_gy (grdT rfl rfl rfl (decide_eq_true rfl)) (g_mv rfl) rfl ?_)
 refine ow_gy (grdT rfl rfl rfl (decide_eq_true rfl)) (g_str Try.underlying23 Try.underlying5 Try.underlying9 rfl (by first | assumption | exact Own.rd ‹_› | exact Rd.keep0 ‹_› hB | exact Own.rd (Own.keep0 ‹_› hB))) rfl ?_
 refine ow_gy (grdT rfl rfl rfl (decide_eq_true rfl)) (g_eqs (a := [0, 0]) (b := [0, 0]) rfl rfl) rfl ?_
 refine ow_g (g_pickT rfl (decide_eq_true rfl) rfl) rfl ?_
 refine ow_g (g_mv rfl) rfl (ow_gy (grdT rfl rfl rfl (decide_eq_true rfl)) (g_mv rfl) rfl ?_)
 refine ow_dy (grdT rfl rfl rfl (decide_eq_true rfl)) (d_call (vs := [_]) rfl (wnum_any _ _)) rfl ?_
 rintro _ _ ⟨rfl, rfl⟩
 refine ow_gy (grdT rfl rfl rfl (decide_eq_true rfl)) (g_eq rfl rfl) rfl ?_
 refine ow_g (g_pickT rfl (decide_eq_true rfl) rfl) rfl ?_
 refine ow_g (g_as rfl) rfl (ow_nil (tw_keep [(0, _)] ⟨rfl, trivial⟩ ?_))
 refine tw_ret1 hfin Try.results16 rfl ?_
 exact ⟨by first | rfl | decide, hB⟩
end Go.Proofs.Ytimeclfplaonkaa.W
namespace Go.Proofs.Ytimeclfplaonkaa.W
open Go Go.Eng Go.Byt
set_option linter.unusedVariables false
set_option linter.unusedSimpArgs false
theorem ig_put {c : List UInt8} (h : igE c = 0) : infE (igI c) = 0 ∧ infB (igI c) = c := by
  unfold igE at h
  cases hg : igOk c
  · rw [hg] at h; exact absurd h (by decide)
  · unfold igI infE infB; rw [hg]
    unfold igOk at hg
    rw [Bool.and_eq_true, decide_eq_true_eq] at hg
    simp only [cond_true]
    rw [hg.1]; exact ⟨rfl, hg.2⟩
attribute [local irreducible] infE infB igI igE
set_option maxRecDepth 100000 in
set_option maxHeartbeats 1000000 in
theorem infos_any (v : Value) (c : List UInt8) (g t x tr co ou sg : Value) (i : Inf) (w : World) (hg : RdB w g i.c.g) (ht : RdB w t i.c.tr) (hx : RdB w x i.c.tx) (h1 : RdB w tr i.tree) (h2 : RdB w co i.conf) (h3 : RdB w ou i.outer) (h4 : RdB w sg i.sig) (n0 : i.c.g.length ≤ 140737488351232) (n1 : i.c.tr.length ≤ 140737488351232) (n2 : i.c.tx.length ≤ 140737488351232) (n3 : i.tree.length ≤ 140737488351232) (n4 : i.conf.length ≤ 140737488351232) (n5 : i.outer.length ≤ 140737488351232) (n6 : i.sig.length ≤ 140737488351232) (hv : RdB w v c) (hc : c.length ≤ 140737488351232) : Rets Try.prog 6 [.agg [g, .int .i64 i.c.ep, t, x, tr, co, ou, .int .i64 i.signer, sg].toArray, v] w (fun r w' => r = .bool true ∧ Keep [] w w') := by
 have hB : Keep [] w w := Keep.refl _ _
 refine rets_of_tw Try.func6 rfl (by decide) Try.ntmps6 rfl (fun fin _ hfin => ?_)
 refine tw_seq (tw_region (ow_d (d_box (cs := [g, .int .i64 i.c.ep, t, x, tr, co, ou, .int .i64 i.signer, sg]) rfl rfl) rfl ?_))
 rintro _ w1 ⟨b1, rfl, eb1, hb1, k1, z1⟩
 have ge_b1 : w.heap.size ≤ b1 := by have := hB.size; omega
 replace hB := hB.trans k1
 clear eb1 z1
 refine ow_g (g_as rfl) rfl (ow_nil (tw_seq (tw_region (ow_g (g_mv rfl) rfl (ow_d (d_call (vs := [_]) rfl (lent_any _ c _ (by first | assumption | exact Own.rd ‹_› | exact Rd.keep0 ‹_› hB | exact Own.rd (Own.keep0 ‹_› hB)) hc)) rfl ?_)))))
 rintro _ w2 ⟨u1, rfl, o1, k2⟩
 have gl_o1 := hB.size
 have sb_b1_o1 := fun x hx => (show x ≠ b1 from by have h1 := (o1.blk x hx).1; have h2 := hb1.lt; omega)
 replace hb1 := hb1.keep0 k2
 replace hB := hB.trans k2
 have u_o1 := o1.blk
 refine ow_g (g_as rfl) rfl (ow_nil (tw_seq (tw_region (ow_g (g_ldab (cs' := [_, _, _, _, _, _, _, _, _]) ag83 ty83 rfl hb1 rfl rfl) rfl ?_))))
 refine ow_d (d_call (vs := [_]) rfl (infocopy_any _ _ _ _ _ _ _ i _ (Rd.keep0 hg hB) (Rd.keep0 ht hB) (Rd.keep0 hx hB) (Rd.keep0 h1 hB) (Rd.keep0 h2 hB) (Rd.keep0 h3 hB) (Rd.keep0 h4 hB) n0 n1 n2 n3 n4 n5 n6)) rfl ?_
 rintro _ w3 ⟨g1, t1, x1, tr1, co1, ou1, sg1, rfl, f11, f21, f31, f41, f51, f61, f71, k3⟩
 replace hb1 := hb1.keep0 k3
 replace o1 := o1.keep0 k3
 replace hB := hB.trans k3
 have hK1 : Keep [] w3 w3 := Keep.refl _ _
 refine ow_d (d_alloc ty86) rfl ?_
 rintro _ w4 ⟨b2, rfl, eb2, hb2, k4, z2⟩
 have gb_hK1_b2 : w3.heap.size ≤ b2 := by have := hK1.size; omega
 have ge_b2 : w.heap.size ≤ b2 := by have := hB.size; omega
 have ne_b1_b2 : b1 ≠ b2 := by have := hb1.lt; omega
 have sb_b2_o1 := fun x hx => (show x ≠ b2 from by have := (o1.blk x hx).2; omega)
 replace hb1 := hb1.keep0 k4
 replace o1 := o1.keep0 k4
 replace hB := hB.trans k4
 replace hK1 := hK1.trans k4
 clear eb2 z2
 refine ow_d0 (d_sta ty86 rfl rfl rfl (by simp only [List.forall_mem_cons]; exact ⟨(Rd.keep0 f11.rd hK1).one, rfl, (Rd.keep0 f21.rd hK1).one, (Rd.keep0 f31.rd hK1).one, (Rd.keep0 f41.rd hK1).one, (Rd.keep0 f51.rd hK1).one, (Rd.keep0 f61.rd hK1).one, rfl, (Rd.keep0 f71.rd hK1).one, fun v hv => by cases hv⟩) hb2 rfl) ?_
 rintro _ w5 ⟨hb3, k5, z3⟩
 replace hb1 := hb1.keep k5 (fun hm => absurd (List.mem_singleton.1 hm) ne_b1_b2)
 replace o1 := o1.keep k5 (fun x hx hm => sb_b2_o1 x hx (List.mem_singleton.1 hm))
 replace hB := hB.new k5 (fun x hx => .inl ((List.mem_singleton.1 hx) ▸ ge_b2))
 replace hK1 := hK1.new k5 (fun x hx => .inl ((List.mem_singleton.1 hx) ▸ gb_hK1_b2))
 clear z3
 replace hb3 : Bk w5 b2 _ [g1, .int .i64 i.c.ep, t1, x1, tr1, co1, ou1, .int .i64 i.signer, sg1] := hb3
 refine ow_nil (tw_seq (tw_region (ow_g (g_ldab (cs' := [_, _, _, _, _, _, _, _, _]) ag86 ty86 rfl hb3 rfl rfl) rfl ?_)))
 refine ow_d (d_call (vs := [_]) rfl (putinfo_any _ _ _ _ _ _ _ i _ (Rd.keep0 f11.rd hK1) (Rd.keep0 f21.rd hK1) (Rd.keep0 f31.rd hK1) (Rd.keep0 f41.rd hK1) (Rd.keep0 f51.rd hK1) (Rd.keep0 f61.rd hK1) (Rd.keep0 f71.rd hK1))) rfl ?_
 rintro _ w6 ⟨u2, rfl, o2, k6⟩
 have gl_o2 := hB.size
 have sb_b1_o2 := fun x hx => (show x ≠ b1 from by have h1 := (o2.blk x hx).1; have h2 := hb1.lt; omega)
 have sb_b2_o2 := fun x hx => (show x ≠ b2 from by have h1 := (o2.blk x hx).1; have h2 := hb3.lt; omega)
 replace hb1 := hb1.keep0 k6
 replace o1 := o1.keep0 k6
 replace hb3 := hb3.keep0 k6
 replace hB := hB.trans k6
 have u_o2 := o2.blk
 replace hK1 := hK1.trans k6
 refine ow_g (g_mv rfl) rfl (ow_g (g_ext (vs := [_, _]) rfl rfl) rfl ?_)
 refine ow_g (g_ext (vs := [_, _]) rfl rfl) rfl ?_
 refine ow_g (g_as rfl) rfl (ow_g (g_as rfl) rfl (ow_nil (tw_keep [(1, _), (2, _), (5, _), (6, _), (7, _), (8, _)] ⟨rfl, rfl, rfl, rfl, rfl, rfl, trivial⟩ ?_)))
 refine tw_seq (tw_region (ow_g (g_ldab (cs' := [_, _, _, _, _, _, _, _, _]) ag83 ty83 rfl hb1 rfl rfl) rfl ?_))
 refine ow_d (d_call (vs := [_]) rfl (rputinfo_any _ _ _ _ _ _ _ i _ (Rd.keep0 hg hB) (Rd.keep0 ht hB) (Rd.keep0 hx hB) (Rd.keep0 h1 hB) (Rd.keep0 h2 hB) (Rd.keep0 h3 hB) (Rd.keep0 h4 hB))) rfl ?_
 rintro _ w7 ⟨u3, rfl, o3, k7⟩
 have gl_o3 := hB.size
 have sb_b1_o3 := fun x hx => (show x ≠ b1 from by have h1 := (o3.blk x hx).1; have h2 := hb1.lt; omega)
 have sb_b2_o3 := fun x hx => (show x ≠ b2 from by have h1 := (o3.blk x hx).1; have h2 := hb3.lt; omega)
 replace hb1 := hb1.keep0 k7
 replace o1 := o1.keep0 k7
 replace hb3 := hb3.keep0 k7
 replace o2 := o2.keep0 k7
 replace hB := hB.trans k7
 have u_o3 := o3.blk
 replace hK1 := hK1.trans k7
 refine ow_g (g_mv rfl) rfl (ow_g (g_ext (vs := [_, _]) rfl rfl) rfl ?_)
 refine ow_g (g_ext (vs := [_, _]) rfl rfl) rfl ?_
 refine ow_g (g_as rfl) rfl (ow_g (g_as rfl) rfl (ow_nil (tw_seq (tw_region (ow_g (g_mv rfl) rfl (ow_d (d_call (vs := [_]) rfl (getinfo_any _ c _ (lent_rd o1) hc)) rfl ?_))))))
 rintro _ w8 ⟨g2, t2, x2, tr2, co2, ou2, sg2, rfl, f12, f22, f32, f42, f52, f62, f72, k8⟩
 replace hb1 := hb1.keep0 k8
 replace o1 := o1.keep0 k8
 replace hb3 := hb3.keep0 k8
 replace o2 := o2.keep0 k8
 replace o3 := o3.keep0 k8
 replace hB := hB.trans k8
 replace hK1 := hK1.trans k8
 have hK2 : Keep [] w8 w8 := Keep.refl _ _
 refine ow_g (g_mv rfl) rfl (ow_g (g_ext (vs := [_, _]) rfl rfl) rfl ?_)
 refine ow_g (g_ext (vs := [_, _]) rfl rfl) rfl ?_
 refine ow_d (d_alloc ty86) rfl ?_
 rintro _ w9 ⟨b3, rfl, eb3, hb4, k9, z4⟩
 have gb_hK1_b3 : w3.heap.size ≤ b3 := by have := hK1.size; omega
 have gb_hK2_b3 : w8.heap.size ≤ b3 := by have := hK2.size; omega
 have ge_b3 : w.heap.size ≤ b3 := by have := hB.size; omega
 have ne_b1_b3 : b1 ≠ b3 := by have := hb1.lt; omega
 have sb_b3_o1 := fun x hx => (show x ≠ b3 from by have := (o1.blk x hx).2; omega)
 have ne_b2_b3 : b2 ≠ b3 := by have := hb3.lt; omega
 have sb_b3_o2 := fun x hx => (show x ≠ b3 from by have := (o2.blk x hx).2; omega)
 have sb_b3_o3 := fun x hx => (show x ≠ b3 from by have := (o3.blk x hx).2; omega)
 replace hb1 := hb1.keep0 k9
 replace o1 := o1.keep0 k9
 replace hb3 := hb3.keep0 k9
 replace o2 := o2.keep0 k9
 replace o3 := o3.keep0 k9
 replace hB := hB.trans k9
 replace hK1 := hK1.trans k9
 replace hK2 := hK2.trans k9
 clear eb3 z4
 refine ow_d0 (d_sta ty86 rfl rfl rfl (by simp only [List.forall_mem_cons]; exact ⟨(Rd.keep0 f12 hK2).one, rfl, (Rd.keep0 f22 hK2).one, (Rd.keep0 f32 hK2).one, (Rd.keep0 f42 hK2).one, (Rd.keep0 f52 hK2).one, (Rd.keep0 f62 hK2).one, rfl, (Rd.keep0 f72 hK2).one, fun v hv => by cases hv⟩) hb4 rfl) ?_
 rintro _ w10 ⟨hb5, k10, z5⟩
 replace hb1 := hb1.keep k10 (fun hm => absurd (List.mem_singleton.1 hm) ne_b1_b3)
 replace o1 := o1.keep k10 (fun x hx hm => sb_b3_o1 x hx (List.mem_singleton.1 hm))
 replace hb3 := hb3.keep k10 (fun hm => absurd (List.mem_singleton.1 hm) ne_b2_b3)
 replace o2 := o2.keep k10 (fun x hx hm => sb_b3_o2 x hx (List.mem_singleton.1 hm))
 replace o3 := o3.keep k10 (fun x hx hm => sb_b3_o3 x hx (List.mem_singleton.1 hm))
 replace hB := hB.new k10 (fun x hx => .inl ((List.mem_singleton.1 hx) ▸ ge_b3))
 replace hK1 := hK1.new k10 (fun x hx => .inl ((List.mem_singleton.1 hx) ▸ gb_hK1_b3))
 replace hK2 := hK2.new k10 (fun x hx => .inl ((List.mem_singleton.1 hx) ▸ gb_hK2_b3))
 clear z5
 replace hb5 : Bk w10 b3 _ [g2, .int .i64 (igI c).c.ep, t2, x2, tr2, co2, ou2, .int .i64 (igI c).signer, sg2] := hb5
 refine ow_g (g_as rfl) rfl (ow_nil (tw_keep [(1, _), (2, _), (5, _), (6, _), (7, _), (8, _), (9, _), (10, _), (11, _), (12, _)] ⟨rfl, rfl, rfl, rfl, rfl, rfl, rfl, rfl, rfl, rfl, trivial⟩ ?_))
 refine tw_seq (tw_region (ow_g (g_mv rfl) rfl (ow_d (d_call (vs := [_]) rfl (rgetinfo_any _ c _ (by first | assumption | exact Own.rd ‹_› | exact Rd.keep0 ‹_› hB | exact Own.rd (Own.keep0 ‹_› hB)) hc)) rfl ?_)))
 rintro _ w11 ⟨g3, t3, x3, tr3, co3, ou3, sg3, rfl, f13, f23, f33, f43, f53, f63, f73, k11⟩
 replace hb1 := hb1.keep0 k11
 replace o1 := o1.keep0 k11
 replace hb3 := hb3.keep0 k11
 replace o2 := o2.keep0 k11
 replace o3 := o3.keep0 k11
 replace hb5 := hb5.keep0 k11
 replace hB := hB.trans k11
 replace hK1 := hK1.trans k11
 replace hK2 := hK2.trans k11
 have hK3 : Keep [] w11 w11 := Keep.refl _ _
 refine ow_g (g_mv rfl) rfl (ow_g (g_ext (vs := [_, _]) rfl rfl) rfl ?_)
 refine ow_g (g_ext (vs := [_, _]) rfl rfl) rfl ?_
 refine ow_d (d_alloc ty83) rfl ?_
 rintro _ w12 ⟨b4, rfl, eb4, hb6, k12, z6⟩
 have gb_hK1_b4 : w3.heap.size ≤ b4 := by have := hK1.size; omega
 have gb_hK2_b4 : w8.heap.size ≤ b4 := by have := hK2.size; omega
 have gb_hK3_b4 : w11.heap.size ≤ b4 := by have := hK3.size; omega
 have ge_b4 : w.heap.size ≤ b4 := by have := hB.size; omega
 have ne_b1_b4 : b1 ≠ b4 := by have := hb1.lt; omega
 have sb_b4_o1 := fun x hx => (show x ≠ b4 from by have := (o1.blk x hx).2; omega)
 have ne_b2_b4 : b2 ≠ b4 := by have := hb3.lt; omega
 have sb_b4_o2 := fun x hx => (show x ≠ b4 from by have := (o2.blk x hx).2; omega)
 have sb_b4_o3 := fun x hx => (show x ≠ b4 from by have := (o3.blk x hx).2; omega)
 have ne_b3_b4 : b3 ≠ b4 := by have := hb5.lt; omega
 replace hb1 := hb1.keep0 k12
 replace o1 := o1.keep0 k12
 replace hb3 := hb3.keep0 k12
 replace o2 := o2.keep0 k12
 replace o3 := o3.keep0 k12
 replace hb5 := hb5.keep0 k12
 replace hB := hB.trans k12
 replace hK1 := hK1.trans k12
 replace hK2 := hK2.trans k12
 replace hK3 := hK3.trans k12
 clear eb4 z6
 refine ow_d0 (d_sta ty83 rfl rfl rfl (by simp only [List.forall_mem_cons]; exact ⟨(Rd.keep0 f13 hK3).one, rfl, (Rd.keep0 f23 hK3).one, (Rd.keep0 f33 hK3).one, (Rd.keep0 f43 hK3).one, (Rd.keep0 f53 hK3).one, (Rd.keep0 f63 hK3).one, rfl, (Rd.keep0 f73 hK3).one, fun v hv => by cases hv⟩) hb6 rfl) ?_
 rintro _ w13 ⟨hb7, k13, z7⟩
 replace hb1 := hb1.keep k13 (fun hm => absurd (List.mem_singleton.1 hm) ne_b1_b4)
 replace o1 := o1.keep k13 (fun x hx hm => sb_b4_o1 x hx (List.mem_singleton.1 hm))
 replace hb3 := hb3.keep k13 (fun hm => absurd (List.mem_singleton.1 hm) ne_b2_b4)
 replace o2 := o2.keep k13 (fun x hx hm => sb_b4_o2 x hx (List.mem_singleton.1 hm))
 replace o3 := o3.keep k13 (fun x hx hm => sb_b4_o3 x hx (List.mem_singleton.1 hm))
 replace hb5 := hb5.keep k13 (fun hm => absurd (List.mem_singleton.1 hm) ne_b3_b4)
 replace hB := hB.new k13 (fun x hx => .inl ((List.mem_singleton.1 hx) ▸ ge_b4))
 replace hK1 := hK1.new k13 (fun x hx => .inl ((List.mem_singleton.1 hx) ▸ gb_hK1_b4))
 replace hK2 := hK2.new k13 (fun x hx => .inl ((List.mem_singleton.1 hx) ▸ gb_hK2_b4))
 replace hK3 := hK3.new k13 (fun x hx => .inl ((List.mem_singleton.1 hx) ▸ gb_hK3_b4))
 clear z7
 replace hb7 : Bk w13 b4 _ [g3, .int .i64 (igI c).c.ep, t3, x3, tr3, co3, ou3, .int .i64 (igI c).signer, sg3] := hb7
 refine ow_g (g_as rfl) rfl (ow_nil (tw_seq (tw_seq (tw_region (ow_g (g_mv rfl) rfl (ow_g (g_str Try.underlying23 Try.underlying5 Try.underlying9 rfl (by first | assumption | exact Own.rd ‹_› | exact Rd.keep0 ‹_› hB | exact Own.rd (Own.keep0 ‹_› hB))) rfl ?_))))))
 refine ow_g (g_mv rfl) rfl (ow_g (g_str Try.underlying23 Try.underlying5 Try.underlying9 rfl (by first | assumption | exact Own.rd ‹_› | exact Rd.keep0 ‹_› hB | exact Own.rd (Own.keep0 ‹_› hB))) rfl ?_)
 refine ow_g (g_nes rfl rfl) rfl ?_
 refine ow_g (g_mv rfl) rfl (ow_gy (grdT rfl rfl rfl (decide_eq_false (fun h => h rfl))) (g_mv rfl) rfl ?_)
 refine ow_dy (grdT rfl rfl rfl (decide_eq_false (fun h => h rfl))) (d_call (vs := [_]) rfl (wnum_k _ _)) rfl ?_
 rintro _ w14 ⟨rfl, k14⟩
 replace hb1 := hb1.keep0 k14
 replace o1 := o1.keep0 k14
 replace hb3 := hb3.keep0 k14
 replace o2 := o2.keep0 k14
 replace o3 := o3.keep0 k14
 replace hb5 := hb5.keep0 k14
 replace hb7 := hb7.keep0 k14
 replace hB := hB.trans k14
 replace hK1 := hK1.trans k14
 replace hK2 := hK2.trans k14
 replace hK3 := hK3.trans k14
 refine ow_gy (grdT rfl rfl rfl (decide_eq_false (fun h => h rfl))) (g_mv rfl) rfl ?_
 refine ow_gy (grdT rfl rfl rfl (decide_eq_false (fun h => h rfl))) (g_ne rfl rfl) rfl ?_
 refine ow_g (g_pickF rfl (decide_eq_false (fun h => h rfl)) rfl) rfl ?_
 refine ow_g (g_mv rfl) rfl (ow_gy (grdT rfl rfl rfl (decide_eq_false (fun h => h rfl))) (g_ldab (cs' := [_, _, _, _, _, _, _, _, _]) ag86 ty86 rfl hb5 rfl rfl) rfl ?_)
 refine ow_gy (grdT rfl rfl rfl (decide_eq_false (fun h => h rfl))) (g_ldab (cs' := [_, _, _, _, _, _, _, _, _]) ag83 ty83 rfl hb7 rfl rfl) rfl ?_
 refine ow_dy (grdT rfl rfl rfl (decide_eq_false (fun h => h rfl))) (d_call (vs := [_, _]) rfl (sameinfo_any _ _ _ _ _ _ _ (igI c) _ (Rd.keep0 f12 hK2) (Rd.keep0 f22 hK2) (Rd.keep0 f32 hK2) (Rd.keep0 f42 hK2) (Rd.keep0 f52 hK2) (Rd.keep0 f62 hK2) (Rd.keep0 f72 hK2) _ _ _ _ _ _ _ (Rd.keep0 f13 hK3) (Rd.keep0 f23 hK3) (Rd.keep0 f33 hK3) (Rd.keep0 f43 hK3) (Rd.keep0 f53 hK3) (Rd.keep0 f63 hK3) (Rd.keep0 f73 hK3))) rfl ?_
 rintro _ w15 ⟨rfl, k15⟩
 replace hb1 := hb1.keep0 k15
 replace o1 := o1.keep0 k15
 replace hb3 := hb3.keep0 k15
 replace o2 := o2.keep0 k15
 replace o3 := o3.keep0 k15
 replace hb5 := hb5.keep0 k15
 replace hb7 := hb7.keep0 k15
 replace hB := hB.trans k15
 replace hK1 := hK1.trans k15
 replace hK2 := hK2.trans k15
 replace hK3 := hK3.trans k15
 refine ow_gy (grdT rfl rfl rfl (decide_eq_false (fun h => h rfl))) (g_not rfl) rfl ?_
 refine ow_g (g_pickF rfl (decide_eq_false (fun h => h rfl)) rfl) rfl ?_
 refine ow_g (g_mv rfl) rfl (ow_gy (grdT rfl rfl rfl rfl) (g_mv rfl) rfl ?_)
 refine ow_dy (grdT rfl rfl rfl rfl) (d_call (vs := [_]) rfl (wnum_k _ _)) rfl ?_
 rintro _ w16 ⟨rfl, k16⟩
 replace hb1 := hb1.keep0 k16
 replace o1 := o1.keep0 k16
 replace hb3 := hb3.keep0 k16
 replace o2 := o2.keep0 k16
 replace o3 := o3.keep0 k16
 replace hb5 := hb5.keep0 k16
 replace hb7 := hb7.keep0 k16
 replace hB := hB.trans k16
 replace hK1 := hK1.trans k16
 replace hK2 := hK2.trans k16
 replace hK3 := hK3.trans k16
 refine ow_gy (grdT rfl rfl rfl rfl) (g_mv rfl) rfl ?_
 refine ow_gy (grdT rfl rfl rfl rfl) (g_ne rfl rfl) rfl ?_
 refine ow_g (g_pickF rfl rfl rfl) rfl ?_
 refine ow_g (g_mv rfl) rfl (ow_gy (grdT rfl rfl rfl (decide_eq_false (fun h => h rfl))) (g_ldab (cs' := [_, _, _, _, _, _, _, _, _]) ag86 ty86 rfl hb3 rfl rfl) rfl ?_)
 refine ow_gy (grdT rfl rfl rfl (decide_eq_false (fun h => h rfl))) (g_ldab (cs' := [_, _, _, _, _, _, _, _, _]) ag83 ty83 rfl hb1 rfl rfl) rfl ?_
 refine ow_dy (grdT rfl rfl rfl (decide_eq_false (fun h => h rfl))) (d_call (vs := [_, _]) rfl (sameinfo_any _ _ _ _ _ _ _ i _ (Rd.keep0 f11.rd hK1) (Rd.keep0 f21.rd hK1) (Rd.keep0 f31.rd hK1) (Rd.keep0 f41.rd hK1) (Rd.keep0 f51.rd hK1) (Rd.keep0 f61.rd hK1) (Rd.keep0 f71.rd hK1) _ _ _ _ _ _ _ (Rd.keep0 hg hB) (Rd.keep0 ht hB) (Rd.keep0 hx hB) (Rd.keep0 h1 hB) (Rd.keep0 h2 hB) (Rd.keep0 h3 hB) (Rd.keep0 h4 hB))) rfl ?_
 rintro _ w17 ⟨rfl, k17⟩
 replace hb1 := hb1.keep0 k17
 replace o1 := o1.keep0 k17
 replace hb3 := hb3.keep0 k17
 replace o2 := o2.keep0 k17
 replace o3 := o3.keep0 k17
 replace hb5 := hb5.keep0 k17
 replace hb7 := hb7.keep0 k17
 replace hB := hB.trans k17
 replace hK1 := hK1.trans k17
 replace hK2 := hK2.trans k17
 replace hK3 := hK3.trans k17
 refine ow_gy (grdT rfl rfl rfl (decide_eq_false (fun h => h rfl))) (g_not rfl) rfl ?_
 refine ow_g (g_pickF rfl (decide_eq_false (fun h => h rfl)) rfl) rfl ?_
 refine ow_g (g_mv rfl) rfl (ow_gy (grdT rfl rfl rfl rfl) (g_mv rfl) rfl ?_)
 refine ow_gy (grdT rfl rfl rfl rfl) (g_mv rfl) rfl ?_
 refine ow_dy (grdT rfl rfl rfl rfl) (d_call (vs := [_, _]) rfl (stays_any _ _ c _ _ o1 (by first | assumption | exact Own.rd ‹_› | exact Rd.keep0 ‹_› hB | exact Own.rd (Own.keep0 ‹_› hB)) hc)) rfl ?_
 rintro _ w18 ⟨rfl, k18⟩
 replace hb1 := hb1.keep0 k18
 replace o1 := o1.keep0 k18
 replace hb3 := hb3.keep0 k18
 replace o2 := o2.keep0 k18
 replace o3 := o3.keep0 k18
 replace hb5 := hb5.keep0 k18
 replace hb7 := hb7.keep0 k18
 replace hB := hB.trans k18
 replace hK1 := hK1.trans k18
 replace hK2 := hK2.trans k18
 replace hK3 := hK3.trans k18
 refine ow_gy (grdT rfl rfl rfl rfl) (g_not rfl) rfl ?_
 refine ow_g (g_pickF rfl rfl rfl) rfl ?_
 refine ow_nil (tw_keep [(1, _), (11, _), (12, _), (75, _)] ⟨rfl, rfl, rfl, rfl, trivial⟩ ?_)
 refine tw_condF rfl (rfl) ?_
 refine tw_skip (tw_seq (tw_seq (tw_region (ow_g (g_mv rfl) rfl (ow_d (d_call (vs := [_]) rfl (wnum_k _ _)) rfl ?_)))))
 rintro _ w19 ⟨rfl, k19⟩
 replace hb1 := hb1.keep0 k19
 replace o1 := o1.keep0 k19
 replace hb3 := hb3.keep0 k19
 replace o2 := o2.keep0 k19
 replace o3 := o3.keep0 k19
 replace hb5 := hb5.keep0 k19
 replace hb7 := hb7.keep0 k19
 replace hB := hB.trans k19
 replace hK1 := hK1.trans k19
 replace hK2 := hK2.trans k19
 replace hK3 := hK3.trans k19
 refine ow_g (g_eq rfl rfl) rfl ?_
 refine ow_nil (tw_if rfl (fun hc1 => ?_) (fun hc1 => ?_))
 ·
  refine tw_seq (tw_region ?_)
  have hgp := ig_put (c := c) ‹_›
  refine ow_g (g_ldab (cs' := [_, _, _, _, _, _, _, _, _]) ag86 ty86 rfl hb5 rfl rfl) rfl ?_
  refine ow_d (d_call (vs := [_]) rfl (putinfo_any _ _ _ _ _ _ _ (igI c) _ (Rd.keep0 f12 hK2) (Rd.keep0 f22 hK2) (Rd.keep0 f32 hK2) (Rd.keep0 f42 hK2) (Rd.keep0 f52 hK2) (Rd.keep0 f62 hK2) (Rd.keep0 f72 hK2))) rfl ?_
  rintro _ w20 ⟨u4, rfl, o4, k20⟩
  have gl_o4 := hB.size
  have sb_b3_o4 := fun x hx => (show x ≠ b3 from by have h1 := (o4.blk x hx).1; have h2 := hb5.lt; omega)
  replace o1 := o1.keep0 k20
  replace o2 := o2.keep0 k20
  replace o3 := o3.keep0 k20
  replace hb5 := hb5.keep0 k20
  replace hB := hB.trans k20
  have u_o4 := o4.blk
  replace hK1 := hK1.trans k20
  replace hK2 := hK2.trans k20
  replace hK3 := hK3.trans k20
  refine ow_g (g_mv rfl) rfl (ow_g (g_ext (vs := [_, _]) rfl rfl) rfl ?_)
  refine ow_g (g_ext (vs := [_, _]) rfl rfl) rfl ?_
  refine ow_g (g_as rfl) rfl (ow_g (g_as rfl) rfl (ow_nil (tw_keep [(1, _), (15, _), (16, _)] ⟨rfl, rfl, rfl, trivial⟩ ?_)))
  refine tw_seq (tw_region (ow_g (g_mv rfl) rfl (ow_d (d_call (vs := [_]) rfl (wnum_k _ _)) rfl ?_)))
  rintro _ w21 ⟨rfl, k21⟩
  replace o1 := o1.keep0 k21
  replace o2 := o2.keep0 k21
  replace o3 := o3.keep0 k21
  replace o4 := o4.keep0 k21
  replace hB := hB.trans k21
  replace hK1 := hK1.trans k21
  replace hK2 := hK2.trans k21
  replace hK3 := hK3.trans k21
  refine ow_g (g_eq rfl rfl) rfl ?_
  refine ow_g (g_mv rfl) rfl (ow_gy (grdT rfl rfl rfl (decide_eq_true hgp.1)) (g_mv rfl) rfl ?_)
  refine ow_gy (grdT rfl rfl rfl (decide_eq_true hgp.1)) (g_str Try.underlying23 Try.underlying5 Try.underlying9 rfl (by first | assumption | exact Own.rd ‹_› | exact Rd.keep0 ‹_› hB | exact Own.rd (Own.keep0 ‹_› hB))) rfl ?_
  refine ow_gy (grdT rfl rfl rfl (decide_eq_true hgp.1)) (g_mv rfl) rfl ?_
  refine ow_gy (grdT rfl rfl rfl (decide_eq_true hgp.1)) (g_str Try.underlying23 Try.underlying5 Try.underlying9 rfl (by first | assumption | exact Own.rd ‹_› | exact Rd.keep0 ‹_› hB | exact Own.rd (Own.keep0 ‹_› hB))) rfl ?_
  refine ow_gy (grdT rfl rfl rfl (decide_eq_true hgp.1)) (g_eqs rfl rfl) rfl ?_
  refine ow_g (g_pickT rfl (decide_eq_true hgp.1) rfl) rfl ?_
  refine ow_g (g_mv rfl) rfl (ow_dy (grdT rfl rfl rfl (decide_eq_true hgp.2)) (d_call (vs := []) rfl (wknows_any _)) rfl ?_)
  rintro _ w22 ⟨rfl, k22⟩
  replace o1 := o1.keep0 k22
  replace o2 := o2.keep0 k22
  replace o3 := o3.keep0 k22
  replace o4 := o4.keep0 k22
  replace hB := hB.trans k22
  replace hK1 := hK1.trans k22
  replace hK2 := hK2.trans k22
  replace hK3 := hK3.trans k22
  refine ow_g (g_pickT rfl (decide_eq_true hgp.2) rfl) rfl ?_
  refine ow_g (g_as rfl) rfl (ow_nil (tw_keep [(4, _)] ⟨rfl, trivial⟩ ?_))
  refine tw_ret1 hfin Try.results6 rfl ?_
  exact ⟨rfl, hB⟩
 ·
  refine tw_skip (tw_seq (tw_region (ow_d (d_call (vs := []) rfl (wknows_any _)) rfl ?_)))
  rintro _ w23 ⟨rfl, k23⟩
  replace o1 := o1.keep0 k23
  replace o2 := o2.keep0 k23
  replace o3 := o3.keep0 k23
  replace hb5 := hb5.keep0 k23
  replace hB := hB.trans k23
  replace hK1 := hK1.trans k23
  replace hK2 := hK2.trans k23
  replace hK3 := hK3.trans k23
  refine ow_g (g_as rfl) rfl (ow_nil (tw_ret1 hfin Try.results6 rfl ?_))
  exact ⟨rfl, hB⟩
end Go.Proofs.Ytimeclfplaonkaa.W
