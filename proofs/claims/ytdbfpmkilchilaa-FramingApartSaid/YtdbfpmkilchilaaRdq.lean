import Derived.Test.YtdbfpmkilchilaaRdp
namespace Go.Proofs.Ytdbfpmkilchilaa.W
open Go Go.Eng Go.Byt
set_option linter.unusedVariables false
set_option linter.unusedSimpArgs false
set_option maxRecDepth 100000 in
theorem new_any (v : Value) (xs : List UInt8) (w : World) (hv : RdB w v xs) (hx : xs.length ≤ 140737488355328) : Rets Try.prog 51 [v] w (fun r w' => ∃ p, r = .pointer (some ⟨p, 0, none⟩) ∧ w.heap.size ≤ p ∧ Rdr w' p xs 0 ∧ Keep [] w w') := by
  have hB : Keep [] w w := Keep.refl _ _
  refine rets_of_tw Try.func51 rfl (by decide) Try.ntmps51 rfl (fun fin _ hfin => ?_)
  refine tw_seq ?_
  refine tw_region ?_
  refine ow_g (g_as rfl) rfl ?_
  refine ow_nil ?_
  refine tw_seq ?_
  refine tw_region ?_
  refine ow_g (g_mv rfl) rfl ?_
  refine ow_d (d_call (vs := [_]) rfl (clone_any _ _ _ (by first | assumption | exact Own.rd (by assumption) | exact Rd.keep0 (by assumption) hB | exact Own.rd (Own.keep0 (by assumption) hB)) (by first | assumption | (simp only [List.length_take, List.length_drop] at *; omega)))) rfl ?_
  rintro v1 w1 ⟨o1, k1, nn1⟩
  have z_k1 := k1.size
  replace hB := hB.trans k1
  have u_o1 := o1.blk
  refine ow_g (g_bld (idx := [0, 2]) (xs := [.tmp 4, .const (.bool true)]) (vs := [_, _]) (css := [[_], [_]]) (out := [_, _, _]) pl170 ty170 rfl rfl ⟨Rd.cells (by first | assumption | exact Own.rd (by assumption) | exact Rd.keep0 (by assumption) hB | exact Own.rd (Own.keep0 (by assumption) hB)), rfl, trivial⟩ rfl rfl) rfl ?_
  refine ow_d (d_box (cs := [_, _, _]) rfl rfl) rfl ?_
  rintro _ w2 ⟨b1, rfl, eb1, hb1, k2, z1⟩
  have z_k2 := k2.size
  replace o1 := o1.keep0 k2
  replace hB := hB.trans k2
  refine ow_g (g_as rfl) rfl ?_
  refine ow_nil ?_
  refine tw_ret1 hfin Try.results51 rfl ?_
  exact ⟨_, rfl, by have := k1.size; omega, ⟨_, hb1, o1.rd, fun x hx => by have := u_o1 x hx; omega⟩, hB⟩

theorem lt_of_rdr {a b : Nat} (h : a < b) : a < b := h
set_option maxRecDepth 100000 in
theorem take_any (p : Nat) (rest : List UInt8) (e n : Int) (w : World) (h : Rdr w p rest e) (hx : rest.length ≤ 140737488355328) : Rets Try.prog 103 [.pointer (some ⟨p, 0, none⟩), .int .i64 n] w (fun v w' => ∃ r, r = rTake rest e n ∧ OwnB w' (p + 1) v r.1 ∧ Rdr w' p r.2.1 r.2.2 ∧ Keep [p] w w') := by
  obtain ⟨bw, hb, hr, hn⟩ := h
  have hB : Keep [p] w w := Keep.refl _ _
  have hgb0 : gb rest 0 = ((rest.getD 0 0).toNat : Int) := rfl
  have hcap := hr.vcap
  have hp0 : p < w.heap.size := hb.lt
  refine rets_of_tw Try.func103 rfl (by decide) Try.ntmps103 rfl (fun fin _ hfin => ?_)
  refine tw_seq ?_
  refine tw_region ?_
  refine ow_g (g_as rfl) rfl ?_
  refine ow_nil ?_
  refine tw_seq ?_
  refine tw_block ?_
  refine tw_seq ?_
  refine tw_region ?_
  refine ow_g (g_mv rfl) rfl ?_
  refine ow_d (d_call (vs := [_]) rfl (err_any _ _ _ _ (by exact ⟨bw, hb, hr, hn⟩))) rfl ?_
  rintro _ _ ⟨rfl, rfl⟩
  refine ow_g (g_ne rfl rfl) rfl ?_
  refine ow_g (g_as rfl) rfl ?_
  refine ow_nil ?_
  refine tw_if rfl (fun hc1 => ?_) (fun hc1 => ?_)
  · -- yes
    refine tw_seq ?_
    refine tw_region ?_
    refine ow_g (g_as rfl) rfl ?_
    refine ow_nil ?_
    refine tw_ret1 hfin Try.results103 rfl ?_
    refine ⟨([], rest, e), ?_, own_nil _ _ _ _, ⟨bw, hb, hr, hn⟩, hB⟩
    unfold rTake
    repeat (first | rw [if_pos (by assumption)] | rw [if_neg (by assumption)] | rw [if_pos (by omega)] | rw [if_neg (by omega)])
    all_goals first | rfl | (refine Prod.ext rfl (Prod.ext rfl ?_); show _ = _; dsimp only; omega)
  · -- no
    refine tw_seq ?_
    refine tw_region ?_
    refine ow_g (g_mv rfl) rfl ?_
    refine ow_g (g_lt rfl rfl) rfl ?_
    refine ow_g (g_as rfl) rfl ?_
    refine ow_nil ?_
    refine tw_if rfl (fun hc2 => ?_) (fun hc2 => ?_)
    · -- yes
      refine tw_seq ?_
      refine tw_region ?_
      refine ow_g (g_mv rfl) rfl ?_
      refine ow_g (g_nilc rfl) rfl ?_
      refine ow_g (g_fa Try.underlying170 rfl ty25 (by decide) rfl) rfl ?_
      refine ow_d0 (d_st ty25 rfl rfl rfl hb rfl) ?_
      rintro _ w1 ⟨hq1, k1, z1⟩
      have hR : Rdr w1 p rest 1 := Rdr.setE hq1 hr hn k1
      replace hB := hB.trans k1
      refine ow_nil ?_
      refine tw_seq ?_
      refine tw_region ?_
      refine ow_g (g_as rfl) rfl ?_
      refine ow_nil ?_
      refine tw_ret1 hfin Try.results103 rfl ?_
      refine ⟨([], rest, 1), ?_, own_nil _ _ _ _, hR, hB⟩
      unfold rTake
      repeat (first | rw [if_pos (by assumption)] | rw [if_neg (by assumption)] | rw [if_pos (by omega)] | rw [if_neg (by omega)])
      all_goals first | rfl | (refine Prod.ext rfl (Prod.ext rfl ?_); show _ = _; dsimp only; omega)
    · -- no
      refine tw_seq ?_
      refine tw_region ?_
      refine ow_g (g_mv rfl) rfl ?_
      refine ow_g (g_mv rfl) rfl ?_
      refine ow_g (g_nilc rfl) rfl ?_
      refine ow_g (g_fa Try.underlying170 rfl ty22 (by decide) rfl) rfl ?_
      refine ow_g (g_ldb sc22 rfl (by assumption) rfl) rfl ?_
      refine ow_g (g_len Try.underlying22 rfl (by first | assumption | exact Own.rd (by assumption) | exact Rd.keep0 (by assumption) hB | exact Own.rd (Own.keep0 (by assumption) hB))) rfl ?_
      refine ow_g (g_gt rfl rfl) rfl ?_
      refine ow_g (g_as rfl) rfl ?_
      refine ow_nil ?_
      refine tw_if rfl (fun hc3 => ?_) (fun hc3 => ?_)
      · -- yes
        refine tw_seq ?_
        refine tw_region ?_
        refine ow_g (g_mv rfl) rfl ?_
        refine ow_g (g_nilc rfl) rfl ?_
        refine ow_g (g_fa Try.underlying170 rfl ty25 (by decide) rfl) rfl ?_
        refine ow_d0 (d_st ty25 rfl rfl rfl hb rfl) ?_
        rintro _ w2 ⟨hq2, k2, z2⟩
        have hR : Rdr w2 p rest 20 := Rdr.setE hq2 hr hn k2
        replace hB := hB.trans k2
        refine ow_nil ?_
        refine tw_seq ?_
        refine tw_region ?_
        refine ow_g (g_as rfl) rfl ?_
        refine ow_nil ?_
        refine tw_ret1 hfin Try.results103 rfl ?_
        refine ⟨([], rest, 20), ?_, own_nil _ _ _ _, hR, hB⟩
        unfold rTake
        repeat (first | rw [if_pos (by assumption)] | rw [if_neg (by assumption)] | rw [if_pos (by omega)] | rw [if_neg (by omega)])
        all_goals first | rfl | (refine Prod.ext rfl (Prod.ext rfl ?_); show _ = _; dsimp only; omega)
      · -- no
        refine tw_skip ?_
        refine tw_b ?_
        refine tw_seq ?_
        refine tw_region ?_
        refine ow_g (g_mv rfl) rfl ?_
        refine ow_g (g_nilc rfl) rfl ?_
        refine ow_g (g_fa Try.underlying170 rfl ty22 (by decide) rfl) rfl ?_
        refine ow_g (g_ldb sc22 rfl (by assumption) rfl) rfl ?_
        refine ow_g (g_mv rfl) rfl ?_
        have hct := hr.cutB (l := 0) (hi := n.toNat) (Nat.zero_le _) (by omega)
        replace hct : RdB w (cut bw 0 n.toNat 1) (rest.take n.toNat) := by simpa using hct
        refine ow_g (g_sl Try.underlying22 ty5 rfl hr (.inl ⟨rfl, rfl⟩) (.inr ⟨_, _, rfl, rfl⟩) ⟨by omega, by omega, by omega⟩) rfl ?_
        refine ow_d (d_call (vs := [_]) rfl (clone_any _ (rest.take n.toNat) _ (by assumption) (by simp only [List.length_take]; omega))) rfl ?_
        rintro v1 w3 ⟨o1, k3, nn1⟩
        have z_k3 := k3.size
        replace hB := hB.trans k3.weak
        have u_o1 := o1.blk
        replace hb := hb.keep0 k3
        replace hr := hr.keep0 k3
        have hpl := hb.lt
        refine ow_g (g_as rfl) rfl ?_
        refine ow_nil ?_
        refine tw_seq ?_
        refine tw_region ?_
        refine ow_g (g_mv rfl) rfl ?_
        refine ow_g (g_mv rfl) rfl ?_
        refine ow_g (g_nilc rfl) rfl ?_
        refine ow_g (g_fa Try.underlying170 rfl ty22 (by decide) rfl) rfl ?_
        refine ow_g (g_ldb sc22 rfl (by assumption) rfl) rfl ?_
        refine ow_g (g_mv rfl) rfl ?_
        refine ow_g (g_sl Try.underlying22 ty5 rfl (by first | assumption | exact Own.rd (by assumption) | exact Rd.keep0 (by assumption) hB | exact Own.rd (Own.keep0 (by assumption) hB)) (.inr ⟨_, _, rfl, rfl⟩) (.inl ⟨rfl, rfl⟩) ⟨by omega, by omega, by omega⟩) rfl ?_
        refine ow_g (g_nilc rfl) rfl ?_
        refine ow_g (g_fa Try.underlying170 rfl ty22 (by decide) rfl) rfl ?_
        refine ow_d0 (d_st ty22 rfl rfl hr.cutOne hb rfl) ?_
        rintro _ w4 ⟨hq3, k4, z3⟩
        have hR : Rdr w4 p (rest.drop n.toNat) e := Rdr.setB hq3 hr hn k4 (by omega) (by omega)
        replace hB := hB.trans k4
        replace o1 := o1.keepP k4 (lt_of_rdr hp0)
        refine ow_nil ?_
        refine tw_seq ?_
        refine tw_region ?_
        refine ow_g (g_mv rfl) rfl ?_
        refine ow_g (g_as rfl) rfl ?_
        refine ow_nil ?_
        refine tw_ret1 hfin Try.results103 rfl ?_
        refine ⟨(rest.take n.toNat, rest.drop n.toNat, e), ?_, o1.lo (by omega), hR, hB⟩
        unfold rTake
        repeat (first | rw [if_pos (by assumption)] | rw [if_neg (by assumption)] | rw [if_pos (by omega)] | rw [if_neg (by omega)])
        all_goals first | rfl | (refine Prod.ext rfl (Prod.ext rfl ?_); show _ = _; dsimp only; omega)

set_option maxRecDepth 100000 in
theorem vector_any (p : Nat) (rest : List UInt8) (e : Int) (w : World) (h : Rdr w p rest e) (hx : rest.length ≤ 140737488355328) : Rets Try.prog 52 [.pointer (some ⟨p, 0, none⟩)] w (fun v w' => ∃ r, r = rVec rest e ∧ OwnB w' (p + 1) v r.1 ∧ Rdr w' p r.2.1 r.2.2 ∧ Keep [p] w w') := by
  have h' := h
  obtain ⟨bw0, hb0, hr0, hn0⟩ := h'
  have hB : Keep [p] w w := Keep.refl _ _
  refine rets_of_tw Try.func52 rfl (by decide) Try.ntmps52 rfl (fun fin _ hfin => ?_)
  refine tw_seq ?_
  refine tw_region ?_
  refine ow_g (g_as rfl) rfl ?_
  refine ow_nil ?_
  refine tw_seq ?_
  refine tw_seq ?_
  refine tw_region ?_
  refine ow_g (g_mv rfl) rfl ?_
  refine ow_d (d_call (vs := [_]) rfl (err_any _ _ _ _ (by assumption))) rfl ?_
  rintro _ _ ⟨rfl, rfl⟩
  refine ow_g (g_ne rfl rfl) rfl ?_
  refine ow_nil ?_
  refine tw_if rfl (fun hc1 => ?_) (fun hc1 => ?_)
  · -- yes
    refine tw_seq ?_
    refine tw_region ?_
    refine ow_g (g_as rfl) rfl ?_
    refine ow_nil ?_
    refine tw_ret1 hfin Try.results52 rfl ?_
    refine ⟨([], rest, e), ?_, own_nil _ _ _ _, h, hB⟩
    unfold rVec; rw [if_pos (by assumption)]
  · -- no
    refine tw_skip ?_
    refine tw_seq ?_
    refine tw_region ?_
    refine ow_g (g_mv rfl) rfl ?_
    refine ow_g (g_nilc rfl) rfl ?_
    refine ow_g (g_fa Try.underlying170 rfl ty22 (by decide) rfl) rfl ?_
    obtain rfl : e = 0 := by omega
    refine ow_g (g_ldb sc22 rfl hb0 rfl) rfl ?_
    refine ow_g (g_as rfl) rfl ?_
    refine ow_nil ?_
    refine tw_seq ?_
    refine tw_region ?_
    refine ow_g (g_mv rfl) rfl ?_
    refine ow_d (d_call (vs := [_]) rfl (rlength_any _ _ _ _ h)) rfl ?_
    rintro _ w1 ⟨r1, hr1, rfl, R1, k1⟩
    replace hB := hB.trans k1
    obtain ⟨bw, hb, hr, hn⟩ := R1
    have hlen1 : r1.2.1.length ≤ rest.length := by rw [hr1]; exact rLen_len rest 0
    refine ow_g (g_as rfl) rfl ?_
    refine ow_nil ?_
    refine tw_seq ?_
    refine tw_seq ?_
    refine tw_region ?_
    refine ow_g (g_mv rfl) rfl ?_
    refine ow_g (g_nilc rfl) rfl ?_
    refine ow_g (g_fa Try.underlying170 rfl ty25 (by decide) rfl) rfl ?_
    refine ow_g (g_ldb sc25 rfl (by assumption) rfl) rfl ?_
    refine ow_g (g_eq rfl rfl) rfl ?_
    refine ow_g (g_mv rfl) rfl ?_
    refine ow_grp 20 true rfl (fun c1 hgc1 => ?_)
    refine ow_gg [(4, _)] (grd1 rfl rfl rfl hgc1) ⟨und0 rfl, trivial⟩ (fun hw1 => g_mv rfl) rfl ?_
    refine ow_gg [(21, _)] (grd1 rfl rfl rfl hgc1) ⟨und1 rfl, trivial⟩ (fun hw2 => g_gt rfl rfl) rfl ?_
    refine ow_g (g_pand rfl rfl hgc1) rfl ?_
    refine ow_nil ?_
    refine tw_cond rfl (fun hc2 => ?_) (fun hc2 => ?_)
    · -- yes
      have hd1 := hc2
      try (simp only [Bool.and_eq_true, Bool.or_eq_true, decide_eq_true_eq, Bool.and_eq_false_iff, Bool.or_eq_false_iff, decide_eq_false_iff_not, Bool.not_eq_true', Bool.not_eq_false', Bool.not_eq_true, Bool.not_eq_false, ne_eq, Decidable.not_not] at hd1)
      refine tw_region ?_
      refine ow_g (g_mv rfl) rfl ?_
      refine ow_g (g_nilc rfl) rfl ?_
      refine ow_g (g_fa Try.underlying170 rfl ty25 (by decide) rfl) rfl ?_
      refine ow_d0 (d_st ty25 rfl rfl rfl hb rfl) ?_
      rintro _ w2 ⟨hq1, k2, z1⟩
      replace hr := hr.keep k2 (fun x hx hm => hn x hx (by simpa using hm)); replace hb := hq1; replace hB := hB.trans k2
      refine ow_nil ?_
      refine tw_seq ?_
      refine tw_region ?_
      refine ow_g (g_mv rfl) rfl ?_
      refine ow_g (g_mv rfl) rfl ?_
      refine ow_d (d_call (vs := [_, _]) rfl (take_any _ r1.2.1 21 _ _ ⟨bw, hb, hr, hn⟩ (by omega))) rfl ?_
      rintro v1 w3 ⟨r2, hr2, o1, R2, k3⟩
      replace hB := hB.trans k3
      obtain ⟨bw2, hb2, hrr2, hn2⟩ := R2
      refine ow_g (g_as rfl) rfl ?_
      refine ow_nil ?_
      refine tw_seq ?_
      refine tw_seq ?_
      refine tw_region ?_
      refine ow_g (g_mv rfl) rfl ?_
      refine ow_g (g_nilc rfl) rfl ?_
      refine ow_g (g_fa Try.underlying170 rfl ty25 (by decide) rfl) rfl ?_
      refine ow_g (g_ldb sc25 rfl hb2 rfl) rfl ?_
      refine ow_g (g_ne rfl rfl) rfl ?_
      refine ow_nil ?_
      refine tw_if rfl (fun hc3 => ?_) (fun hc3 => ?_)
      · -- yes
        refine tw_region ?_
        refine ow_g (g_mv rfl) rfl ?_
        refine ow_g (g_mv rfl) rfl ?_
        refine ow_g (g_nilc rfl) rfl ?_
        refine ow_g (g_fa Try.underlying170 rfl ty22 (by decide) rfl) rfl ?_
        refine ow_d0 (d_st ty22 rfl rfl hr0.one hb2 rfl) ?_
        rintro _ w4 ⟨hq2, k4, z2⟩
        have hr0' := hr0.keep (hB.trans k4) (fun x hx hm => hn0 x hx (by simpa using hm))
        replace o1 := o1.keepP k4 (Nat.lt_succ_self p); replace hB := hB.trans k4
        have hR : Rdr w4 p rest r2.2.2 := ⟨_, hq2, hr0', hn0⟩
        refine ow_nil ?_
        refine tw_seq ?_
        refine tw_region ?_
        refine ow_g (g_mv rfl) rfl ?_
        refine ow_g (g_as rfl) rfl ?_
        refine ow_nil ?_
        refine tw_ret1 hfin Try.results52 rfl ?_
        have h1 : r2.1 = [] := by rw [hr2]; exact rTake_err _ _ _ (by rw [← hr2]; assumption)
        rw [h1] at o1
        exact ⟨([], rest, r2.2.2), rVec_far hr1 hr2 (by first | assumption | omega) (by assumption), o1, hR, hB⟩
      · -- no
        refine tw_skip ?_
        refine tw_seq ?_
        refine tw_region ?_
        refine ow_g (g_mv rfl) rfl ?_
        refine ow_g (g_as rfl) rfl ?_
        refine ow_nil ?_
        refine tw_ret1 hfin Try.results52 rfl ?_
        exact ⟨r2, rVec_ok21 hr1 hr2 (by first | assumption | omega) (by omega), o1, ⟨bw2, hb2, hrr2, hn2⟩, hB⟩
    · -- no
      have hd2 := hc2
      try (simp only [Bool.and_eq_true, Bool.or_eq_true, decide_eq_true_eq, Bool.and_eq_false_iff, Bool.or_eq_false_iff, decide_eq_false_iff_not, Bool.not_eq_true', Bool.not_eq_false', Bool.not_eq_true, Bool.not_eq_false, ne_eq, Decidable.not_not] at hd2)
      refine tw_skip ?_
      refine tw_seq ?_
      refine tw_region ?_
      refine ow_g (g_mv rfl) rfl ?_
      refine ow_g (g_mv rfl) rfl ?_
      refine ow_d (d_call (vs := [_, _]) rfl (take_any _ r1.2.1 r1.2.2 _ _ ⟨bw, hb, hr, hn⟩ (by omega))) rfl ?_
      rintro v1 w5 ⟨r2, hr2, o1, R2, k5⟩
      replace hB := hB.trans k5
      obtain ⟨bw2, hb2, hrr2, hn2⟩ := R2
      refine ow_g (g_as rfl) rfl ?_
      refine ow_nil ?_
      refine tw_seq ?_
      refine tw_seq ?_
      refine tw_region ?_
      refine ow_g (g_mv rfl) rfl ?_
      refine ow_g (g_nilc rfl) rfl ?_
      refine ow_g (g_fa Try.underlying170 rfl ty25 (by decide) rfl) rfl ?_
      refine ow_g (g_ldb sc25 rfl hb2 rfl) rfl ?_
      refine ow_g (g_ne rfl rfl) rfl ?_
      refine ow_nil ?_
      refine tw_if rfl (fun hc4 => ?_) (fun hc4 => ?_)
      · -- yes
        refine tw_region ?_
        refine ow_g (g_mv rfl) rfl ?_
        refine ow_g (g_mv rfl) rfl ?_
        refine ow_g (g_nilc rfl) rfl ?_
        refine ow_g (g_fa Try.underlying170 rfl ty22 (by decide) rfl) rfl ?_
        refine ow_d0 (d_st ty22 rfl rfl hr0.one hb2 rfl) ?_
        rintro _ w6 ⟨hq3, k6, z3⟩
        have hr0' := hr0.keep (hB.trans k6) (fun x hx hm => hn0 x hx (by simpa using hm))
        replace o1 := o1.keepP k6 (Nat.lt_succ_self p); replace hB := hB.trans k6
        have hR : Rdr w6 p rest r2.2.2 := ⟨_, hq3, hr0', hn0⟩
        refine ow_nil ?_
        refine tw_seq ?_
        refine tw_region ?_
        refine ow_g (g_mv rfl) rfl ?_
        refine ow_g (g_as rfl) rfl ?_
        refine ow_nil ?_
        refine tw_ret1 hfin Try.results52 rfl ?_
        have h1 : r2.1 = [] := by rw [hr2]; exact rTake_err _ _ _ (by rw [← hr2]; assumption)
        rw [h1] at o1
        exact ⟨([], rest, r2.2.2), rVec_bad hr1 hr2 (by first | assumption | omega) (by assumption), o1, hR, hB⟩
      · -- no
        refine tw_skip ?_
        refine tw_seq ?_
        refine tw_region ?_
        refine ow_g (g_mv rfl) rfl ?_
        refine ow_g (g_as rfl) rfl ?_
        refine ow_nil ?_
        refine tw_ret1 hfin Try.results52 rfl ?_
        exact ⟨r2, rVec_ok hr1 hr2 (by first | assumption | omega) (by omega), o1, ⟨bw2, hb2, hrr2, hn2⟩, hB⟩

set_option maxRecDepth 100000 in
theorem left_any (p : Nat) (rest : List UInt8) (e : Int) (w : World) (h : Rdr w p rest e) : Rets Try.prog 53 [.pointer (some ⟨p, 0, none⟩)] w (fun v w' => v = .int .i64 (rest.length : Int) ∧ w = w') := by
  obtain ⟨bw, hb, hr, hn⟩ := h
  refine rets_of_tw Try.func53 rfl (by decide) Try.ntmps53 rfl (fun fin _ hfin => ?_)
  refine tw_seq ?_
  refine tw_region ?_
  refine ow_g (g_as rfl) rfl ?_
  refine ow_nil ?_
  refine tw_seq ?_
  refine tw_seq ?_
  refine tw_region ?_
  refine ow_g (g_mv rfl) rfl ?_
  refine ow_g (g_nilP Try.underlying115 rfl) rfl ?_
  refine ow_nil ?_
  refine tw_condF rfl (rfl) ?_
  refine tw_skip ?_
  refine tw_seq ?_
  refine tw_region ?_
  refine ow_g (g_mv rfl) rfl ?_
  refine ow_g (g_nilc rfl) rfl ?_
  refine ow_g (g_fa Try.underlying170 rfl ty22 (by decide) rfl) rfl ?_
  refine ow_g (g_ldb sc22 rfl (by assumption) rfl) rfl ?_
  refine ow_g (g_len Try.underlying22 rfl (by first | assumption | exact Own.rd (by assumption) | exact Rd.keep0 (by assumption) hB | exact Own.rd (Own.keep0 (by assumption) hB))) rfl ?_
  refine ow_g (g_as rfl) rfl ?_
  refine ow_nil ?_
  refine tw_ret1 hfin Try.results53 rfl ?_
  exact ⟨rfl, rfl⟩

set_option maxRecDepth 100000 in
theorem end_any (p : Nat) (rest : List UInt8) (e : Int) (w : World) (h : Rdr w p rest e) : Rets Try.prog 97 [.pointer (some ⟨p, 0, none⟩)] w (fun v w' => v = .int .i64 (rEnd rest e) ∧ w = w') := by
  obtain ⟨bw, hb, hr, hn⟩ := h
  refine rets_of_tw Try.func97 rfl (by decide) Try.ntmps97 rfl (fun fin _ hfin => ?_)
  refine tw_seq ?_
  refine tw_region ?_
  refine ow_g (g_as rfl) rfl ?_
  refine ow_nil ?_
  refine tw_seq ?_
  refine tw_seq ?_
  refine tw_region ?_
  refine ow_g (g_mv rfl) rfl ?_
  refine ow_d (d_call (vs := [_]) rfl (err_any _ _ _ _ ⟨bw, hb, hr, hn⟩)) rfl ?_
  rintro _ _ ⟨rfl, rfl⟩
  refine ow_g (g_as rfl) rfl ?_
  refine ow_nil ?_
  refine tw_seq ?_
  refine tw_region ?_
  refine ow_g (g_mv rfl) rfl ?_
  refine ow_g (g_ne rfl rfl) rfl ?_
  refine ow_nil ?_
  refine tw_if rfl (fun hc1 => ?_) (fun hc1 => ?_)
  · -- yes
    refine tw_seq ?_
    refine tw_region ?_
    refine ow_g (g_mv rfl) rfl ?_
    refine ow_g (g_as rfl) rfl ?_
    refine ow_nil ?_
    refine tw_ret1 hfin Try.results97 rfl ?_
    refine ⟨?_, rfl⟩
    congr 1
    unfold rEnd
    repeat (first | rw [if_pos (by assumption)] | rw [if_neg (by assumption)] | rw [if_pos (by omega)] | rw [if_neg (by omega)])
  · -- no
    refine tw_skip ?_
    refine tw_seq ?_
    refine tw_seq ?_
    refine tw_region ?_
    refine ow_g (g_mv rfl) rfl ?_
    refine ow_g (g_nilc rfl) rfl ?_
    refine ow_g (g_fa Try.underlying170 rfl ty22 (by decide) rfl) rfl ?_
    refine ow_g (g_ldb sc22 rfl (by assumption) rfl) rfl ?_
    refine ow_g (g_len Try.underlying22 rfl (by first | assumption | exact Own.rd (by assumption) | exact Rd.keep0 (by assumption) hB | exact Own.rd (Own.keep0 (by assumption) hB))) rfl ?_
    refine ow_g (g_gt rfl rfl) rfl ?_
    refine ow_nil ?_
    refine tw_if rfl (fun hc2 => ?_) (fun hc2 => ?_)
    · -- yes
      refine tw_seq ?_
      refine tw_region ?_
      refine ow_g (g_as rfl) rfl ?_
      refine ow_nil ?_
      refine tw_ret1 hfin Try.results97 rfl ?_
      refine ⟨?_, rfl⟩
      congr 1
      unfold rEnd
      repeat (first | rw [if_pos (by assumption)] | rw [if_neg (by assumption)] | rw [if_pos (by omega)] | rw [if_neg (by omega)])
    · -- no
      refine tw_skip ?_
      refine tw_seq ?_
      refine tw_region ?_
      refine ow_g (g_as rfl) rfl ?_
      refine ow_nil ?_
      refine tw_ret1 hfin Try.results97 rfl ?_
      refine ⟨?_, rfl⟩
      congr 1
      unfold rEnd
      repeat (first | rw [if_pos (by assumption)] | rw [if_neg (by assumption)] | rw [if_pos (by omega)] | rw [if_neg (by omega)])

end Go.Proofs.Ytdbfpmkilchilaa.W
