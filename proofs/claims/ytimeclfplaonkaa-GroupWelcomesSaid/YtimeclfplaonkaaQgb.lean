/- Contracts and laws, part 2 of 3: what each function of the program and of the reference computes, shown once. -/
import Derived.Below
import Derived.ChangeOld
import Derived.OpenShut
import Derived.ProofKit
import Derived.ShutString
import Derived.SizedLaws
import Derived.StillTail
import Derived.Stop.BytesEq
import Derived.WalkKit
import Derived.Test.YtimeclfplaonkaaQga
namespace Go.Proofs.Ytimeclfplaonkaa.W
open Go Go.Eng Go.Byt
set_option linter.unusedVariables false
set_option linter.unusedSimpArgs false
set_option maxRecDepth 100000 in
theorem newL_any (v : Value) (xs : List UInt8) (w : World) (hv : RdB w v xs) (hx : xs.length ≤ 140737488355328) : Rets Try.prog 41 [v] w (fun r w' => ∃ p, r = .pointer (some ⟨p, 0, none⟩) ∧ RdrL w' w.heap.size p xs 0 ∧ Keep [] w w') := by
 have hB : Keep [] w w := Keep.refl _ _
 refine rets_of_tw Try.func41 rfl (by decide) Try.ntmps41 rfl (fun fin _ hfin => ?_)
 refine tw_seq (tw_region (ow_g (g_as rfl) rfl (ow_nil (tw_seq (tw_region (ow_g (g_mv rfl) rfl ?_))))))
 refine ow_d (d_call (vs := [_]) rfl (clone_any _ _ _ (by first | assumption | exact Own.rd ‹_› | exact Rd.keep0 ‹_› hB | exact Own.rd (Own.keep0 ‹_› hB)) (by first | assumption | (simp only [List.length_take, List.length_drop] at *; omega)))) rfl ?_
 rintro v1 w1 ⟨o1, k1, nn1⟩
 have z_k1 := k1.size
 replace hB := hB.trans k1
 have u_o1 := o1.blk
 refine ow_g (g_bld (idx := [0, 2]) (xs := [.tmp 4, .const (.bool true)]) (vs := [_, _]) (css := [[_], [_]]) (out := [_, _, _]) pl158 ty158 rfl rfl ⟨Rd.cells (by first | assumption | exact Own.rd ‹_› | exact Rd.keep0 ‹_› hB | exact Own.rd (Own.keep0 ‹_› hB)), rfl, trivial⟩ rfl rfl) rfl ?_
 refine ow_d (d_box (cs := [_, _, _]) rfl rfl) rfl ?_
 rintro _ w2 ⟨b1, rfl, eb1, hb1, k2, z1⟩
 have z_k2 := k2.size
 replace o1 := o1.keep0 k2
 replace hB := hB.trans k2
 refine ow_g (g_as rfl) rfl (ow_nil (tw_ret1 hfin Try.results41 rfl ?_))
 exact ⟨_, rfl, ⟨by have := k1.size; omega, _, hb1, o1.rd, fun x hx => by have := u_o1 x hx; omega⟩, hB⟩
theorem lt_of_rdr {a b : Nat} (h : a < b) : a < b := h
set_option maxRecDepth 100000 in
theorem take_any (p : Nat) (rest : List UInt8) (e n : Int) (w : World) (h : Rdr w p rest e) (hx : rest.length ≤ 140737488355328) : Rets Try.prog 87 [.pointer (some ⟨p, 0, none⟩), .int .i64 n] w (fun v w' => ∃ r, r = rTake rest e n ∧ OwnB w' w.heap.size v r.1 ∧ Rdr w' p r.2.1 r.2.2 ∧ Keep [p] w w') := by
 obtain ⟨bw, hb, hr, hn⟩ := h
 have hB : Keep [p] w w := Keep.refl _ _
 have hgb0 : gb rest 0 = ((rest.getD 0 0).toNat : Int) := rfl
 have hcap := hr.vcap
 have hp0 : p < w.heap.size := hb.lt
 refine rets_of_tw Try.func87 rfl (by decide) Try.ntmps87 rfl (fun fin _ hfin => ?_)
 refine tw_seq (tw_region (ow_g (g_as rfl) rfl (ow_nil (tw_seq (tw_block (tw_seq ?_))))))
 refine tw_region (ow_g (g_mv rfl) rfl (ow_d (d_call (vs := [_]) rfl (err_any _ _ _ _ (by exact ⟨bw, hb, hr, hn⟩))) rfl ?_))
 rintro _ _ ⟨rfl, rfl⟩
 refine ow_g (g_ne rfl rfl) rfl ?_
 refine ow_g (g_as rfl) rfl (ow_nil (tw_if rfl (fun hc1 => ?_) (fun hc1 => ?_)))
 ·
  refine tw_seq (tw_region (ow_g (g_as rfl) rfl (ow_nil (tw_ret1 hfin Try.results87 rfl ?_))))
  refine ⟨([], rest, e), ?_, own_nil _ _ _ _, ⟨bw, hb, hr, hn⟩, hB⟩
  unfold rTake
  repeat (first | rw [if_pos ‹_›] | rw [if_neg ‹_›] | rw [if_pos (by omega)] | rw [if_neg (by omega)])
  all_goals first | rfl | (refine Prod.ext rfl (Prod.ext rfl ?_); show _ = _; dsimp only; omega)
 ·
  refine tw_seq (tw_region (ow_g (g_mv rfl) rfl (ow_g (g_lt rfl rfl) rfl ?_)))
  refine ow_g (g_as rfl) rfl (ow_nil (tw_if rfl (fun hc2 => ?_) (fun hc2 => ?_)))
  ·
   refine tw_seq (tw_region (ow_g (g_mv rfl) rfl (ow_g (g_nilc rfl) rfl ?_)))
   refine ow_g (g_fa Try.underlying158 rfl ty31 (by decide) rfl) rfl ?_
   refine ow_d0 (d_st ty31 rfl rfl rfl hb rfl) ?_
   rintro _ w1 ⟨hq1, k1, z1⟩
   have hR : Rdr w1 p rest 1 := Rdr.setE hq1 hr hn k1
   replace hB := hB.trans k1
   refine ow_nil (tw_seq (tw_region (ow_g (g_as rfl) rfl (ow_nil (tw_ret1 hfin Try.results87 rfl ?_)))))
   refine ⟨([], rest, 1), ?_, own_nil _ _ _ _, hR, hB⟩
   unfold rTake
   repeat (first | rw [if_pos ‹_›] | rw [if_neg ‹_›] | rw [if_pos (by omega)] | rw [if_neg (by omega)])
   all_goals first | rfl | (refine Prod.ext rfl (Prod.ext rfl ?_); show _ = _; dsimp only; omega)
  ·
   refine tw_seq (tw_region (ow_g (g_mv rfl) rfl (ow_g (g_mv rfl) rfl (ow_g (g_nilc rfl) rfl ?_))))
   refine ow_g (g_fa Try.underlying158 rfl ty23 (by decide) rfl) rfl ?_
   refine ow_g (g_ldb sc23 rfl ‹_› rfl) rfl ?_
   refine ow_g (g_len Try.underlying23 rfl (by first | assumption | exact Own.rd ‹_› | exact Rd.keep0 ‹_› hB | exact Own.rd (Own.keep0 ‹_› hB))) rfl ?_
   refine ow_g (g_gt rfl rfl) rfl ?_
   refine ow_g (g_as rfl) rfl (ow_nil (tw_if rfl (fun hc3 => ?_) (fun hc3 => ?_)))
   ·
    refine tw_seq (tw_region (ow_g (g_mv rfl) rfl (ow_g (g_nilc rfl) rfl ?_)))
    refine ow_g (g_fa Try.underlying158 rfl ty31 (by decide) rfl) rfl ?_
    refine ow_d0 (d_st ty31 rfl rfl rfl hb rfl) ?_
    rintro _ w2 ⟨hq2, k2, z2⟩
    have hR : Rdr w2 p rest 20 := Rdr.setE hq2 hr hn k2
    replace hB := hB.trans k2
    refine ow_nil (tw_seq (tw_region (ow_g (g_as rfl) rfl (ow_nil (tw_ret1 hfin Try.results87 rfl ?_)))))
    refine ⟨([], rest, 20), ?_, own_nil _ _ _ _, hR, hB⟩
    unfold rTake
    repeat (first | rw [if_pos ‹_›] | rw [if_neg ‹_›] | rw [if_pos (by omega)] | rw [if_neg (by omega)])
    all_goals first | rfl | (refine Prod.ext rfl (Prod.ext rfl ?_); show _ = _; dsimp only; omega)
   ·
    refine tw_skip (tw_b (tw_seq (tw_region (ow_g (g_mv rfl) rfl (ow_g (g_nilc rfl) rfl ?_)))))
    refine ow_g (g_fa Try.underlying158 rfl ty23 (by decide) rfl) rfl ?_
    refine ow_g (g_ldb sc23 rfl ‹_› rfl) rfl ?_
    refine ow_g (g_mv rfl) rfl ?_
    have hct := hr.cutB (l := 0) (hi := n.toNat) (Nat.zero_le _) (by omega)
    replace hct : RdB w (cut bw 0 n.toNat 1) (rest.take n.toNat) := by simpa using hct
    refine ow_g (g_sl Try.underlying23 ty5 rfl hr (.inl ⟨rfl, rfl⟩) (.inr ⟨_, _, rfl, rfl⟩) ⟨by omega, by omega, by omega⟩) rfl ?_
    refine ow_d (d_call (vs := [_]) rfl (clone_any _ (rest.take n.toNat) _ ‹_› (by simp only [List.length_take]; omega))) rfl ?_
    rintro v1 w3 ⟨o1, k3, nn1⟩
    have z_k3 := k3.size
    replace hB := hB.trans k3.weak
    have u_o1 := o1.blk
    replace hb := hb.keep0 k3
    replace hr := hr.keep0 k3
    have hpl := hb.lt
    refine ow_g (g_as rfl) rfl (ow_nil (tw_seq (tw_region (ow_g (g_mv rfl) rfl (ow_g (g_mv rfl) rfl (ow_g (g_nilc rfl) rfl ?_))))))
    refine ow_g (g_fa Try.underlying158 rfl ty23 (by decide) rfl) rfl ?_
    refine ow_g (g_ldb sc23 rfl ‹_› rfl) rfl ?_
    refine ow_g (g_mv rfl) rfl (ow_g (g_sl Try.underlying23 ty5 rfl (by first | assumption | exact Own.rd ‹_› | exact Rd.keep0 ‹_› hB | exact Own.rd (Own.keep0 ‹_› hB)) (.inr ⟨_, _, rfl, rfl⟩) (.inl ⟨rfl, rfl⟩) ⟨by omega, by omega, by omega⟩) rfl ?_)
    refine ow_g (g_nilc rfl) rfl ?_
    refine ow_g (g_fa Try.underlying158 rfl ty23 (by decide) rfl) rfl ?_
    refine ow_d0 (d_st ty23 rfl rfl hr.cutOne hb rfl) ?_
    rintro _ w4 ⟨hq3, k4, z3⟩
    have hR : Rdr w4 p (rest.drop n.toNat) e := Rdr.setB hq3 hr hn k4 (by omega) (by omega)
    replace hB := hB.trans k4
    replace o1 := o1.keepP k4 (lt_of_rdr hp0)
    refine ow_nil (tw_seq (tw_region (ow_g (g_mv rfl) rfl (ow_g (g_as rfl) rfl (ow_nil (tw_ret1 hfin Try.results87 rfl ?_))))))
    refine ⟨(rest.take n.toNat, rest.drop n.toNat, e), ?_, o1.lo (by omega), hR, hB⟩
    unfold rTake
    repeat (first | rw [if_pos ‹_›] | rw [if_neg ‹_›] | rw [if_pos (by omega)] | rw [if_neg (by omega)])
    all_goals first | rfl | (refine Prod.ext rfl (Prod.ext rfl ?_); show _ = _; dsimp only; omega)
set_option maxRecDepth 100000 in
theorem vector_any (p : Nat) (rest : List UInt8) (e : Int) (w : World) (h : Rdr w p rest e) (hx : rest.length ≤ 140737488355328) : Rets Try.prog 42 [.pointer (some ⟨p, 0, none⟩)] w (fun v w' => ∃ r, r = rVec rest e ∧ OwnB w' w.heap.size v r.1 ∧ Rdr w' p r.2.1 r.2.2 ∧ Keep [p] w w') := by
 have h' := h
 obtain ⟨bw0, hb0, hr0, hn0⟩ := h'
 have hB : Keep [p] w w := Keep.refl _ _
 refine rets_of_tw Try.func42 rfl (by decide) Try.ntmps42 rfl (fun fin _ hfin => ?_)
 refine tw_seq (tw_region (ow_g (g_as rfl) rfl (ow_nil (tw_seq (tw_seq (tw_region ?_))))))
 refine ow_g (g_mv rfl) rfl (ow_d (d_call (vs := [_]) rfl (err_any _ _ _ _ ‹_›)) rfl ?_)
 rintro _ _ ⟨rfl, rfl⟩
 refine ow_g (g_ne rfl rfl) rfl ?_
 refine ow_nil (tw_if rfl (fun hc1 => ?_) (fun hc1 => ?_))
 ·
  refine tw_seq (tw_region (ow_g (g_as rfl) rfl (ow_nil (tw_ret1 hfin Try.results42 rfl ?_))))
  refine ⟨([], rest, e), ?_, own_nil _ _ _ _, h, hB⟩
  unfold rVec; rw [if_pos ‹_›]
 ·
  refine tw_skip (tw_seq (tw_region (ow_g (g_mv rfl) rfl (ow_g (g_nilc rfl) rfl ?_))))
  refine ow_g (g_fa Try.underlying158 rfl ty23 (by decide) rfl) rfl ?_
  obtain rfl : e = 0 := by omega
  refine ow_g (g_ldb sc23 rfl hb0 rfl) rfl ?_
  refine ow_g (g_as rfl) rfl (ow_nil (tw_seq (tw_region (ow_g (g_mv rfl) rfl (ow_d (d_call (vs := [_]) rfl (rlength_any _ _ _ _ h)) rfl ?_)))))
  rintro _ w1 ⟨r1, hr1, rfl, R1, k1⟩
  replace hB := hB.trans k1
  obtain ⟨bw, hb, hr, hn⟩ := R1
  have hlen1 : r1.2.1.length ≤ rest.length := by rw [hr1]; exact rLen_len rest 0
  refine ow_g (g_as rfl) rfl (ow_nil (tw_seq (tw_seq (tw_region (ow_g (g_mv rfl) rfl (ow_g (g_nilc rfl) rfl ?_))))))
  refine ow_g (g_fa Try.underlying158 rfl ty31 (by decide) rfl) rfl ?_
  refine ow_g (g_ldb sc31 rfl ‹_› rfl) rfl ?_
  refine ow_g (g_eq rfl rfl) rfl ?_
  refine ow_g (g_mv rfl) rfl (ow_grp 20 true rfl (fun c1 hgc1 => ?_))
  refine ow_gg [(4, _)] (grd1 rfl rfl rfl hgc1) ⟨und0 rfl, trivial⟩ (fun hw1 => g_mv rfl) rfl ?_
  refine ow_gg [(21, _)] (grd1 rfl rfl rfl hgc1) ⟨und1 rfl, trivial⟩ (fun hw2 => g_gt rfl rfl) rfl ?_
  refine ow_g (g_pand rfl rfl hgc1) rfl ?_
  refine ow_nil (tw_cond rfl (fun hc2 => ?_) (fun hc2 => ?_))
  ·
   have hd1 := hc2
   try (simp only [Bool.and_eq_true, Bool.or_eq_true, decide_eq_true_eq, Bool.and_eq_false_iff, Bool.or_eq_false_iff, decide_eq_false_iff_not, Bool.not_eq_true', Bool.not_eq_false', Bool.not_eq_true, Bool.not_eq_false, ne_eq, Decidable.not_not, decide_true, decide_false, Bool.true_and, Bool.false_and, Bool.or_false, Bool.false_or, not_true_eq_false, false_or, or_false, true_and, and_true, not_false_eq_true, reduceCtorEq] at hd1)
   refine tw_region (ow_g (g_mv rfl) rfl (ow_g (g_nilc rfl) rfl ?_))
   refine ow_g (g_fa Try.underlying158 rfl ty31 (by decide) rfl) rfl ?_
   refine ow_d0 (d_st ty31 rfl rfl rfl hb rfl) ?_
   rintro _ w2 ⟨hq1, k2, z1⟩
   replace hr := hr.keep k2 (fun x hx hm => Nat.ne_of_lt (hn x hx) (by simpa using hm)); replace hb := hq1; replace hB := hB.trans k2
   refine ow_nil (tw_seq (tw_region (ow_g (g_mv rfl) rfl (ow_g (g_mv rfl) rfl ?_))))
   have hs1 := hB.size; have hp1 := hb.lt
   refine ow_d (d_call (vs := [_, _]) rfl (take_any _ r1.2.1 21 _ _ ⟨bw, hb, hr, hn⟩ (by omega))) rfl ?_
   rintro v1 w3 ⟨r2, hr2, o1, R2, k3⟩
   replace hB := hB.trans k3
   obtain ⟨bw2, hb2, hrr2, hn2⟩ := R2
   refine ow_g (g_as rfl) rfl (ow_nil (tw_seq (tw_seq (tw_region (ow_g (g_mv rfl) rfl (ow_g (g_nilc rfl) rfl ?_))))))
   refine ow_g (g_fa Try.underlying158 rfl ty31 (by decide) rfl) rfl ?_
   refine ow_g (g_ldb sc31 rfl hb2 rfl) rfl ?_
   refine ow_g (g_ne rfl rfl) rfl ?_
   refine ow_nil (tw_if rfl (fun hc3 => ?_) (fun hc3 => ?_))
   ·
    refine tw_region (ow_g (g_mv rfl) rfl (ow_g (g_mv rfl) rfl (ow_g (g_nilc rfl) rfl ?_)))
    refine ow_g (g_fa Try.underlying158 rfl ty23 (by decide) rfl) rfl ?_
    refine ow_d0 (d_st ty23 rfl rfl hr0.one hb2 rfl) ?_
    rintro _ w4 ⟨hq2, k4, z2⟩
    have hr0' := hr0.keep (hB.trans k4) (fun x hx hm => Nat.ne_of_lt (hn0 x hx) (by simpa using hm))
    replace o1 := o1.keepP k4 hp1; replace hB := hB.trans k4
    have hR : Rdr w4 p rest r2.2.2 := ⟨_, hq2, hr0', hn0⟩
    refine ow_nil (tw_seq (tw_region (ow_g (g_mv rfl) rfl (ow_g (g_as rfl) rfl (ow_nil (tw_ret1 hfin Try.results42 rfl ?_))))))
    have h1 : r2.1 = [] := by rw [hr2]; exact rTake_err _ _ _ (by rw [← hr2]; assumption)
    rw [h1] at o1
    exact ⟨([], rest, r2.2.2), rVec_far hr1 hr2 (by first | assumption | omega) ‹_›, o1.lo hs1, hR, hB⟩
   ·
    refine tw_skip (tw_seq (tw_region (ow_g (g_mv rfl) rfl (ow_g (g_as rfl) rfl (ow_nil (tw_ret1 hfin Try.results42 rfl ?_))))))
    exact ⟨r2, rVec_ok21 hr1 hr2 (by first | assumption | omega) (by omega), o1.lo hs1, ⟨bw2, hb2, hrr2, hn2⟩, hB⟩
  ·
   have hd2 := hc2
   try (simp only [Bool.and_eq_true, Bool.or_eq_true, decide_eq_true_eq, Bool.and_eq_false_iff, Bool.or_eq_false_iff, decide_eq_false_iff_not, Bool.not_eq_true', Bool.not_eq_false', Bool.not_eq_true, Bool.not_eq_false, ne_eq, Decidable.not_not, decide_true, decide_false, Bool.true_and, Bool.false_and, Bool.or_false, Bool.false_or, not_true_eq_false, false_or, or_false, true_and, and_true, not_false_eq_true, reduceCtorEq] at hd2)
   refine tw_skip (tw_seq (tw_region (ow_g (g_mv rfl) rfl (ow_g (g_mv rfl) rfl ?_))))
   have hs1 := hB.size; have hp1 := hb.lt
   refine ow_d (d_call (vs := [_, _]) rfl (take_any _ r1.2.1 r1.2.2 _ _ ⟨bw, hb, hr, hn⟩ (by omega))) rfl ?_
   rintro v1 w5 ⟨r2, hr2, o1, R2, k5⟩
   replace hB := hB.trans k5
   obtain ⟨bw2, hb2, hrr2, hn2⟩ := R2
   refine ow_g (g_as rfl) rfl (ow_nil (tw_seq (tw_seq (tw_region (ow_g (g_mv rfl) rfl (ow_g (g_nilc rfl) rfl ?_))))))
   refine ow_g (g_fa Try.underlying158 rfl ty31 (by decide) rfl) rfl ?_
   refine ow_g (g_ldb sc31 rfl hb2 rfl) rfl ?_
   refine ow_g (g_ne rfl rfl) rfl ?_
   refine ow_nil (tw_if rfl (fun hc4 => ?_) (fun hc4 => ?_))
   ·
    refine tw_region (ow_g (g_mv rfl) rfl (ow_g (g_mv rfl) rfl (ow_g (g_nilc rfl) rfl ?_)))
    refine ow_g (g_fa Try.underlying158 rfl ty23 (by decide) rfl) rfl ?_
    refine ow_d0 (d_st ty23 rfl rfl hr0.one hb2 rfl) ?_
    rintro _ w6 ⟨hq3, k6, z3⟩
    have hr0' := hr0.keep (hB.trans k6) (fun x hx hm => Nat.ne_of_lt (hn0 x hx) (by simpa using hm))
    replace o1 := o1.keepP k6 hp1; replace hB := hB.trans k6
    have hR : Rdr w6 p rest r2.2.2 := ⟨_, hq3, hr0', hn0⟩
    refine ow_nil (tw_seq (tw_region (ow_g (g_mv rfl) rfl (ow_g (g_as rfl) rfl (ow_nil (tw_ret1 hfin Try.results42 rfl ?_))))))
    have h1 : r2.1 = [] := by rw [hr2]; exact rTake_err _ _ _ (by rw [← hr2]; assumption)
    rw [h1] at o1
    exact ⟨([], rest, r2.2.2), rVec_bad hr1 hr2 (by first | assumption | omega) ‹_›, o1.lo hs1, hR, hB⟩
   ·
    refine tw_skip (tw_seq (tw_region (ow_g (g_mv rfl) rfl (ow_g (g_as rfl) rfl (ow_nil (tw_ret1 hfin Try.results42 rfl ?_))))))
    exact ⟨r2, rVec_ok hr1 hr2 (by first | assumption | omega) (by omega), o1.lo hs1, ⟨bw2, hb2, hrr2, hn2⟩, hB⟩
set_option maxRecDepth 100000 in
theorem left_any (p : Nat) (rest : List UInt8) (e : Int) (w : World) (h : Rdr w p rest e) : Rets Try.prog 43 [.pointer (some ⟨p, 0, none⟩)] w (fun v w' => v = .int .i64 (rest.length : Int) ∧ w = w') := by
 obtain ⟨bw, hb, hr, hn⟩ := h
 refine rets_of_tw Try.func43 rfl (by decide) Try.ntmps43 rfl (fun fin _ hfin => ?_)
 refine tw_seq (tw_region (ow_g (g_as rfl) rfl (ow_nil (tw_seq (tw_seq (tw_region ?_))))))
 refine ow_g (g_mv rfl) rfl (ow_g (g_nilP Try.underlying103 rfl) rfl ?_)
 refine ow_nil (tw_condF rfl (rfl) ?_)
 refine tw_skip (tw_seq (tw_region (ow_g (g_mv rfl) rfl (ow_g (g_nilc rfl) rfl ?_))))
 refine ow_g (g_fa Try.underlying158 rfl ty23 (by decide) rfl) rfl ?_
 refine ow_g (g_ldb sc23 rfl ‹_› rfl) rfl ?_
 refine ow_g (g_len Try.underlying23 rfl (by first | assumption | exact Own.rd ‹_› | exact Rd.keep0 ‹_› hB | exact Own.rd (Own.keep0 ‹_› hB))) rfl ?_
 refine ow_g (g_as rfl) rfl (ow_nil (tw_ret1 hfin Try.results43 rfl ?_))
 exact ⟨rfl, rfl⟩
end Go.Proofs.Ytimeclfplaonkaa.W
namespace Go.Proofs.Ytimeclfplaonkaa.W
open Go Go.Eng Go.Byt
set_option linter.unusedVariables false
set_option linter.unusedSimpArgs false
set_option maxRecDepth 100000 in
theorem rbytes_any (n size : Int) (hs : 0 ≤ size ∧ size ≤ 8) (w : World) : Rets Try.prog 61 [.int .i64 n, .int .i64 size] w (fun v w' => OwnB w' w.heap.size v (be n size.toNat) ∧ Keep [] w w') := by
 have hB : Keep [] w w := Keep.refl _ _
 refine rets_of_tw Try.func61 rfl (by decide) Try.ntmps61 rfl (fun fin _ hfin => ?_)
 refine tw_seq (tw_region (ow_g (g_as rfl) rfl (ow_nil (tw_seq (tw_region (ow_g (g_as rfl) rfl ?_))))))
 refine ow_nil (tw_seq (tw_seq (tw_region (ow_g (g_mv rfl) rfl (ow_g (g_sub rfl rfl (by omega)) rfl ?_)))))
 refine ow_g (g_as rfl) rfl (ow_nil (tw_block (tw_loop (Γ := Int × Value) (fun ⟨i, o⟩ => [(0, .int .i64 n), (1, .int .i64 size), (5, o), (6, .int .i64 i)]) (fun ⟨i, o⟩ W => -1 ≤ i ∧ i < size ∧ OwnB W w.heap.size o ((be n size.toNat).take (size - 1 - i).toNat) ∧ Keep [] w W) (fun ⟨i, o⟩ => (i + 1).toNat) ⟨size - 1, .slice none 0 0⟩ ⟨rfl, rfl, rfl, rfl, trivial⟩ (⟨by omega, by omega, by rw [show (size - 1 - (size - 1)).toNat = 0 from by omega]; exact own_nil _ _ _ _, hB⟩) ?_)))
 rintro ⟨i, o⟩ w1 ⟨hi0, hi1, ow, hB⟩
 refine tw_keep [(0, .int .i64 n), (1, .int .i64 size), (5, o), (6, .int .i64 i)] ⟨rfl, rfl, rfl, rfl, trivial⟩ ?_
 have u_ow := ow.blk
 refine tw_seq (tw_seq (tw_region (ow_g (g_mv rfl) rfl (ow_g (g_ge rfl rfl) rfl ?_))))
 refine ow_nil (tw_if rfl (fun hc1 => ?_) (fun hc1 => ?_))
 ·
  refine tw_skip (tw_seq (tw_block (tw_region (ow_g (g_mv rfl) rfl (ow_g (g_mv rfl) rfl (ow_g (g_mv rfl) rfl ?_))))))
  refine ow_g (g_mul rfl rfl (by omega)) rfl ?_
  refine ow_g (g_cvu (by rw [Try.underlying3]; rfl) Try.underlying174 rfl (by omega)) rfl ?_
  refine ow_g (g_shr rfl rfl (by constructor <;> (try simp only [IntKind.bits]) <;> omega)) rfl ?_
  refine ow_g (g_cv (by rw [Try.underlying3]; rfl) Try.underlying5 rfl) rfl ?_
  refine ow_d (d_bs (m := 1) (xs := [.tmp 19]) (vs := [_]) Try.underlying23 ty5 (by decide) rfl rfl rfl (by first | (simp; done) | (intro v hv; rw [List.mem_singleton] at hv; subst hv; rfl)) (by decide)) rfl ?_
  rintro v1 w2 ⟨o1, nn1, lb1, k1, z1⟩
  have z_k1 := k1.size
  replace ow := ow.keep0 k1
  replace hB := hB.trans k1
  have u_o1 := o1.blk
  have hby : IntKind.u8.wrap (n / 2 ^ (8 * i).toNat) = ((byteAt n i.toNat).toNat : Int) := by rw [byteAt_toNat, IntKind.wrap_u8]; congr 3; omega
  replace o1 := own_byte o1 hby
  have hlt8 : ((be n size.toNat).take (size - 1 - i).toNat).length ≤ 8 := by rw [List.length_take, be_length]; omega
  have hl1 : ([byteAt n i.toNat] : List UInt8).length = 1 := rfl
  have e0 : (be n size.toNat)[(size - 1 - i).toNat]? = some (byteAt n i.toNat) := by simp only [be, List.getElem?_map]; rw [List.getElem?_range (by omega)]; refine congrArg some ?_; show byteAt n _ = byteAt n _; congr 1; omega
  have e1 : (be n size.toNat).take (size - 1 - (i - 1)).toNat = (be n size.toNat).take (size - 1 - i).toNat ++ [byteAt n i.toNat] := by rw [show (size - 1 - (i - 1)).toNat = (size - 1 - i).toNat + 1 from by omega]; exact take_get e0
  refine ow_d (d_appB  Try.underlying23 ty5 rfl (by first | assumption | exact own_nil _ _ _ _) rfl (by first | assumption | exact Own.rd ‹_› | exact Rd.keep0 ‹_› hB | exact Own.rd (Own.keep0 ‹_› hB)) (by first | omega | (simp only [bv_length, List.length_append, Int.toNat_natCast] at *; omega)) (by have := hB.size; omega)) rfl ?_
  rintro v2 w3 ⟨o2, k2, lb2, nn2⟩
  have z_k2 := k2.size
  replace hB := hB.new k2 (fun x hx => .inl (ow.blk x hx).1)
  replace o1 := o1.keep k2 (fun x hx hm => by have h1 := u_ow x hm; have h2 := u_o1 x hx; omega)
  have u_o2 := fun x hx => (lb2 x hx).elim (fun h => Or.inl (u_ow x h)) (fun h => Or.inr (And.intro h (o2.blk x hx).2))
  refine ow_g (g_as rfl) rfl (ow_nil (tw_b (tw_region (ow_g (g_mv rfl) rfl (ow_g (g_sub rfl rfl (by omega)) rfl ?_)))))
  refine ow_g (g_as rfl) rfl (ow_nil (tw_inv (Γ := Int × Value) ⟨i - 1, v2⟩ ⟨rfl, rfl, rfl, rfl, trivial⟩ (by (try dsimp only); omega) (⟨by omega, by omega, by rw [e1]; simpa [OwnB] using o2, hB⟩)))
 ·
  refine tw_exit rfl ?_
  refine tw_seq (tw_region (ow_g (g_mv rfl) rfl (ow_g (g_as rfl) rfl (ow_nil (tw_ret1 hfin Try.results61 rfl ?_)))))
  obtain rfl : i = -1 := by omega
  rw [List.take_of_length_le (by rw [be_length]; omega)] at ow
  exact ⟨ow, hB⟩
set_option maxRecDepth 100000 in
theorem rlen_any (n : Int) (hn : 0 ≤ n ∧ n < 1073741824) (w : World) : Rets Try.prog 123 [.int .i64 n] w (fun v w' => ∃ u, v = .tuple #[u, .int .i64 0] ∧ OwnB w' w.heap.size u (vlen n.toNat) ∧ Keep [] w w') := by
  have hB : Keep [] w w := Keep.refl _ _
  refine rets_of_tw Try.func123 rfl (by decide) Try.ntmps123 rfl (fun fin _ hfin => ?_)
  refine tw_seq ?_
  refine tw_region ?_
  refine ow_g (g_as rfl) rfl ?_
  refine ow_g (g_as rfl) rfl ?_
  refine ow_nil ?_
  refine tw_seq ?_
  refine tw_block ?_
  refine tw_seq ?_
  refine tw_region ?_
  refine ow_g (g_mv rfl) rfl ?_
  refine ow_g (g_lt rfl rfl) rfl ?_
  refine ow_g (g_mv rfl) rfl ?_
  refine ow_grp 7 false rfl (fun c1 hgc1 => ?_)
  refine ow_gg [(0, _)] (grd1 rfl rfl rfl hgc1) ⟨und0 rfl, trivial⟩ (fun hw1 => g_mv rfl) rfl ?_
  refine ow_gg [(8, _)] (grd1 rfl rfl rfl hgc1) ⟨und1 rfl, trivial⟩ (fun hw2 => g_ge rfl rfl) rfl ?_
  refine ow_g (g_por rfl rfl hgc1) rfl ?_
  refine ow_g (g_as rfl) rfl ?_
  refine ow_nil ?_
  refine tw_cond rfl (fun hc1 => ?_) (fun hc1 => ?_)
  · -- yes
    have hd1 := hc1
    try (simp only [Bool.and_eq_true, Bool.or_eq_true, decide_eq_true_eq, Bool.and_eq_false_iff, Bool.or_eq_false_iff, decide_eq_false_iff_not, Bool.not_eq_true', Bool.not_eq_false', Bool.not_eq_true, Bool.not_eq_false, ne_eq, Decidable.not_not, decide_true, decide_false, Bool.true_and, Bool.false_and, Bool.or_false, Bool.false_or, not_true_eq_false, false_or, or_false, true_and, and_true, not_false_eq_true, reduceCtorEq] at hd1)
    refine tw_seq ?_
    refine tw_region ?_
    refine ow_g (g_as rfl) rfl ?_
    refine ow_g (g_as rfl) rfl ?_
    refine ow_nil ?_
    refine tw_ret2 hfin Try.results123 rfl rfl ?_
    first
    | (exfalso; omega)
    | (have hv : vlen n.toNat = be n 1 := by unfold vlen; rw [if_pos (by omega)]; congr 1; omega
       exact ⟨_, rfl, by rw [hv]; assumption, hB⟩)
    | (have hv : vlen n.toNat = be (n + 16384) 2 := by unfold vlen; rw [if_neg (by omega), if_pos (by omega)]; congr 1; omega
       exact ⟨_, rfl, by rw [hv]; assumption, hB⟩)
    | (have hv : vlen n.toNat = be (n + 2147483648) 4 := by unfold vlen; rw [if_neg (by omega), if_neg (by omega)]; congr 1; omega
       exact ⟨_, rfl, by rw [hv]; assumption, hB⟩)
  · -- no
    have hd2 := hc1
    try (simp only [Bool.and_eq_true, Bool.or_eq_true, decide_eq_true_eq, Bool.and_eq_false_iff, Bool.or_eq_false_iff, decide_eq_false_iff_not, Bool.not_eq_true', Bool.not_eq_false', Bool.not_eq_true, Bool.not_eq_false, ne_eq, Decidable.not_not, decide_true, decide_false, Bool.true_and, Bool.false_and, Bool.or_false, Bool.false_or, not_true_eq_false, false_or, or_false, true_and, and_true, not_false_eq_true, reduceCtorEq] at hd2)
    refine tw_seq ?_
    refine tw_region ?_
    refine ow_g (g_mv rfl) rfl ?_
    refine ow_g (g_lt rfl rfl) rfl ?_
    refine ow_g (g_as rfl) rfl ?_
    refine ow_nil ?_
    refine tw_if rfl (fun hc2 => ?_) (fun hc2 => ?_)
    · -- yes
      refine tw_seq ?_
      refine tw_region ?_
      refine ow_g (g_mv rfl) rfl ?_
      refine ow_d (d_call (vs := [_, _]) rfl (rbytes_any _ _ (by omega) _)) rfl ?_
      rintro v1 w1 ⟨o1, k1⟩
      have z_k1 := k1.size
      replace hB := hB.trans k1
      have u_o1 := o1.blk
      refine ow_g (g_as rfl) rfl ?_
      refine ow_g (g_as rfl) rfl ?_
      refine ow_nil ?_
      refine tw_ret2 hfin Try.results123 rfl rfl ?_
      first
      | (exfalso; omega)
      | (have hv : vlen n.toNat = be n 1 := by unfold vlen; rw [if_pos (by omega)]; congr 1; omega
         exact ⟨_, rfl, by rw [hv]; assumption, hB⟩)
      | (have hv : vlen n.toNat = be (n + 16384) 2 := by unfold vlen; rw [if_neg (by omega), if_pos (by omega)]; congr 1; omega
         exact ⟨_, rfl, by rw [hv]; assumption, hB⟩)
      | (have hv : vlen n.toNat = be (n + 2147483648) 4 := by unfold vlen; rw [if_neg (by omega), if_neg (by omega)]; congr 1; omega
         exact ⟨_, rfl, by rw [hv]; assumption, hB⟩)
    · -- no
      refine tw_seq ?_
      refine tw_region ?_
      refine ow_g (g_mv rfl) rfl ?_
      refine ow_g (g_lt rfl rfl) rfl ?_
      refine ow_g (g_as rfl) rfl ?_
      refine ow_nil ?_
      refine tw_if rfl (fun hc3 => ?_) (fun hc3 => ?_)
      · -- yes
        refine tw_seq ?_
        refine tw_region ?_
        refine ow_g (g_mv rfl) rfl ?_
        refine ow_g (g_add rfl rfl (by omega)) rfl ?_
        refine ow_d (d_call (vs := [_, _]) rfl (rbytes_any _ _ (by omega) _)) rfl ?_
        rintro v2 w2 ⟨o2, k2⟩
        have z_k2 := k2.size
        replace hB := hB.trans k2
        have u_o2 := o2.blk
        refine ow_g (g_as rfl) rfl ?_
        refine ow_g (g_as rfl) rfl ?_
        refine ow_nil ?_
        refine tw_ret2 hfin Try.results123 rfl rfl ?_
        first
        | (exfalso; omega)
        | (have hv : vlen n.toNat = be n 1 := by unfold vlen; rw [if_pos (by omega)]; congr 1; omega
           exact ⟨_, rfl, by rw [hv]; assumption, hB⟩)
        | (have hv : vlen n.toNat = be (n + 16384) 2 := by unfold vlen; rw [if_neg (by omega), if_pos (by omega)]; congr 1; omega
           exact ⟨_, rfl, by rw [hv]; assumption, hB⟩)
        | (have hv : vlen n.toNat = be (n + 2147483648) 4 := by unfold vlen; rw [if_neg (by omega), if_neg (by omega)]; congr 1; omega
           exact ⟨_, rfl, by rw [hv]; assumption, hB⟩)
      · -- no
        refine tw_skip ?_
        refine tw_b ?_
        refine tw_seq ?_
        refine tw_region ?_
        refine ow_g (g_mv rfl) rfl ?_
        refine ow_g (g_add rfl rfl (by omega)) rfl ?_
        refine ow_d (d_call (vs := [_, _]) rfl (rbytes_any _ _ (by omega) _)) rfl ?_
        rintro v3 w3 ⟨o3, k3⟩
        have z_k3 := k3.size
        replace hB := hB.trans k3
        have u_o3 := o3.blk
        refine ow_g (g_as rfl) rfl ?_
        refine ow_g (g_as rfl) rfl ?_
        refine ow_nil ?_
        refine tw_ret2 hfin Try.results123 rfl rfl ?_
        first
        | (exfalso; omega)
        | (have hv : vlen n.toNat = be n 1 := by unfold vlen; rw [if_pos (by omega)]; congr 1; omega
           exact ⟨_, rfl, by rw [hv]; assumption, hB⟩)
        | (have hv : vlen n.toNat = be (n + 16384) 2 := by unfold vlen; rw [if_neg (by omega), if_pos (by omega)]; congr 1; omega
           exact ⟨_, rfl, by rw [hv]; assumption, hB⟩)
        | (have hv : vlen n.toNat = be (n + 2147483648) 4 := by unfold vlen; rw [if_neg (by omega), if_neg (by omega)]; congr 1; omega
           exact ⟨_, rfl, by rw [hv]; assumption, hB⟩)
def vec1E (xs : List UInt8) : Int := if xs.length ≤ 65536 then 0 else 6
def vec1B (xs : List UInt8) : List UInt8 := if xs.length ≤ 65536 then vec xs else []
set_option maxRecDepth 100000 in
theorem rvec_any (v : Value) (xs : List UInt8) (w : World) (hv : RdB w v xs) : Rets Try.prog 84 [v] w (fun r w' => ∃ u, r = .tuple #[u, .int .i64 (vec1E xs)] ∧ OwnB w' w.heap.size u (vec1B xs) ∧ Keep [] w w') := by
  have hB : Keep [] w w := Keep.refl _ _
  have hvl := vlen_length xs.length
  have hle := hv.le
  refine rets_of_tw Try.func84 rfl (by decide) Try.ntmps84 rfl (fun fin _ hfin => ?_)
  refine tw_seq ?_
  refine tw_region ?_
  refine ow_g (g_as rfl) rfl ?_
  refine ow_g (g_as rfl) rfl ?_
  refine ow_nil ?_
  refine tw_seq ?_
  refine tw_seq ?_
  refine tw_region ?_
  refine ow_g (g_mv rfl) rfl ?_
  refine ow_g (g_len Try.underlying23 rfl (by first | assumption | exact Own.rd (by assumption) | exact Rd.keep0 (by assumption) hB | exact Own.rd (Own.keep0 (by assumption) hB))) rfl ?_
  refine ow_g (g_gt rfl rfl) rfl ?_
  refine ow_nil ?_
  refine tw_if rfl (fun hc1 => ?_) (fun hc1 => ?_)
  · -- yes
    refine tw_seq ?_
    refine tw_region ?_
    refine ow_g (g_as rfl) rfl ?_
    refine ow_g (g_as rfl) rfl ?_
    refine ow_nil ?_
    refine tw_ret2 hfin Try.results84 rfl rfl ?_
    first
    | (refine ⟨_, by unfold vec1E; rw [if_neg (by omega)], ?_, hB⟩; unfold vec1B; rw [if_neg (by omega)]; exact own_nil _ _ _ _)
    | (refine ⟨_, by unfold vec1E; rw [if_pos (by omega)], ?_, hB⟩; unfold vec1B; rw [if_pos (by omega)]; simpa [OwnB, vec] using o2)
  · -- no
    refine tw_skip ?_
    refine tw_seq ?_
    refine tw_region ?_
    refine ow_g (g_mv rfl) rfl ?_
    refine ow_g (g_len Try.underlying23 rfl (by first | assumption | exact Own.rd (by assumption) | exact Rd.keep0 (by assumption) hB | exact Own.rd (Own.keep0 (by assumption) hB))) rfl ?_
    refine ow_d (d_call (vs := [_]) rfl (rlen_any _ (by constructor <;> omega) _)) rfl ?_
    rintro _ w1 ⟨v1, rfl, o1, k1⟩
    have z_k1 := k1.size
    replace hB := hB.trans k1
    have u_o1 := o1.blk
    refine ow_g (g_mv rfl) rfl ?_
    refine ow_g (g_ext (vs := [_, _]) rfl rfl) rfl ?_
    refine ow_g (g_ext (vs := [_, _]) rfl rfl) rfl ?_
    refine ow_g (g_as rfl) rfl ?_
    refine ow_g (g_as rfl) rfl ?_
    refine ow_nil ?_
    refine tw_seq ?_
    refine tw_region ?_
    refine ow_g (g_mv rfl) rfl ?_
    refine ow_g (g_mv rfl) rfl ?_
    refine ow_d (d_appB  Try.underlying23 ty5 rfl (by first | assumption | exact own_nil _ _ _ _) rfl (by first | assumption | exact Own.rd (by assumption) | exact Rd.keep0 (by assumption) hB | exact Own.rd (Own.keep0 (by assumption) hB)) (by first | omega | (simp only [bv_length, List.length_append, Int.toNat_natCast] at *; omega)) (by have := hB.size; omega)) rfl ?_
    rintro v2 w2 ⟨o2, k2, lb1, nn1⟩
    have z_k2 := k2.size
    replace hB := hB.new k2 (fun x hx => .inl (o1.blk x hx).1)
    have u_o2 := fun x hx => (lb1 x hx).elim (fun h => Or.inl (u_o1 x h)) (fun h => Or.inr (And.intro h (o2.blk x hx).2))
    refine ow_g (g_as rfl) rfl ?_
    refine ow_g (g_as rfl) rfl ?_
    refine ow_nil ?_
    refine tw_ret2 hfin Try.results84 rfl rfl ?_
    first
    | (refine ⟨_, by unfold vec1E; rw [if_neg (by omega)], ?_, hB⟩; unfold vec1B; rw [if_neg (by omega)]; exact own_nil _ _ _ _)
    | (refine ⟨_, by unfold vec1E; rw [if_pos (by omega)], ?_, hB⟩; unfold vec1B; rw [if_pos (by omega)]; simpa [OwnB, vec] using o2)
def joinB (ls : List (List UInt8)) : List UInt8 := ls.flatMap vec1B
theorem joinB_snoc (l : List (List UInt8)) (x : List UInt8) : joinB (l ++ [x]) = joinB l ++ vec1B x := by simp [joinB]
theorem joinB_take_le (l : List (List UInt8)) (i : Nat) : (joinB (l.take i)).length ≤ (joinB l).length := by
  have : joinB l = joinB (l.take i) ++ joinB (l.drop i) := by unfold joinB; rw [← List.flatMap_append, List.take_append_drop]
  rw [this, List.length_append]; omega
theorem length_le_joinB {l : List (List UInt8)} {i : Nat} {x : List UInt8} (h : l[i]? = some x) : (joinB (l.take i)).length + (vec1B x).length ≤ (joinB l).length := by
  have h1 := joinB_take_le l (i + 1)
  rw [take_get h, joinB_snoc] at h1
  simpa using h1
set_option maxRecDepth 100000 in
theorem rjoin_any (v : Value) (ls : List (List UInt8)) (lo : Nat) (w : World) (h : SlL w lo 23 v ls) (hsum : (joinB ls).length ≤ 140737488355328) : Rets Try.prog 40 [v] w (fun u w' => OwnB w' w.heap.size u (joinB ls) ∧ Keep [] w w') := by
 have hB : Keep [] w w := Keep.refl _ _
 obtain ⟨us, h1, hl, h3⟩ := h
 have hv := h3.rd
 have hle := hv.le
 refine rets_of_tw Try.func40 rfl (by decide) Try.ntmps40 rfl (fun fin _ hfin => ?_)
 refine tw_seq (tw_region (ow_g (g_as rfl) rfl (ow_nil (tw_seq (tw_region (ow_g (g_as rfl) rfl ?_))))))
 refine ow_nil (tw_seq (tw_seq (tw_region (ow_g (g_as rfl) rfl (ow_nil (tw_block ?_))))))
 refine tw_loop (Γ := Int × Value) (fun ⟨i, o⟩ => [(0, v), (3, o), (4, .int .i64 i)]) (fun ⟨i, o⟩ W => 0 ≤ i ∧ i ≤ ls.length ∧ OwnB W w.heap.size o (joinB (ls.take i.toNat)) ∧ Keep [] w W) (fun ⟨i, o⟩ => (ls.length - i).toNat) ⟨0, .slice none 0 0⟩ ⟨rfl, rfl, rfl, trivial⟩ (⟨by decide, by omega, own_nil _ _ _ _, hB⟩) ?_
 rintro ⟨i, o⟩ w1 ⟨hi0, hi1, ow, hB⟩
 refine tw_keep [(0, v), (3, o), (4, .int .i64 i)] ⟨rfl, rfl, rfl, trivial⟩ ?_
 have u_ow := ow.blk
 refine tw_seq (tw_seq (tw_region (ow_g (g_mv rfl) rfl (ow_g (g_mv rfl) rfl (ow_g (g_len Try.underlying102 rfl (by first | assumption | exact Own.rd ‹_› | exact Rd.keep0 ‹_› hB | exact Own.rd (Own.keep0 ‹_› hB))) rfl ?_)))))
 refine ow_g (g_lt rfl rfl) rfl ?_
 refine ow_nil (tw_if rfl (fun hc1 => ?_) (fun hc1 => ?_))
 ·
  refine tw_skip (tw_seq (tw_block (tw_seq (tw_region (ow_g (g_mv rfl) rfl (ow_g (g_mv rfl) rfl ?_))))))
  refine ow_g (g_ix Try.underlying102 ty23 rfl (by first | assumption | exact Own.rd ‹_› | exact Rd.keep0 ‹_› hB | exact Own.rd (Own.keep0 ‹_› hB)) rfl (by omega)) rfl ?_
  obtain ⟨u, x, hx, hu, ru⟩ := hl.get (i := i.toNat) (by omega)
  have e1 : ls.take (i + 1).toNat = ls.take i.toNat ++ [x] := by rw [show (i + 1).toNat = i.toNat + 1 from by omega]; exact take_get hx
  have hsz := length_le_joinB hx
  refine ow_g (g_lde sc23 rfl (by first | assumption | exact Own.rd ‹_› | exact Rd.keep0 ‹_› hB | exact Own.rd (Own.keep0 ‹_› hB)) (by rw [Nat.mul_one]; exact hu)) rfl ?_
  refine ow_d (d_call (vs := [_]) rfl (rvec_any _ _ _ (by first | assumption | exact Own.rd ‹_› | exact Rd.keep0 ‹_› hB | exact Own.rd (Own.keep0 ‹_› hB)))) rfl ?_
  rintro _ w2 ⟨v1, rfl, o1, k1⟩
  have z_k1 := k1.size
  replace ow := ow.keep0 k1
  replace hB := hB.trans k1
  have u_o1 := o1.blk
  refine ow_g (g_mv rfl) rfl (ow_g (g_ext (vs := [_, _]) rfl rfl) rfl ?_)
  refine ow_g (g_ext (vs := [_, _]) rfl rfl) rfl ?_
  refine ow_g (g_as rfl) rfl (ow_g (g_as rfl) rfl (ow_nil (tw_region (ow_g (g_mv rfl) rfl (ow_g (g_mv rfl) rfl (ow_d (d_appB  Try.underlying23 ty5 rfl (by first | assumption | exact own_nil _ _ _ _) rfl (by first | assumption | exact Own.rd ‹_› | exact Rd.keep0 ‹_› hB | exact Own.rd (Own.keep0 ‹_› hB)) (by first | omega | (simp only [bv_length, List.length_append, Int.toNat_natCast] at *; omega)) (by have := hB.size; omega)) rfl ?_))))))
  rintro v2 w3 ⟨o2, k2, lb1, nn1⟩
  have z_k2 := k2.size
  replace hB := hB.new k2 (fun x hx => .inl (ow.blk x hx).1)
  replace o1 := o1.keep k2 (fun x hx hm => by have h1 := u_ow x hm; have h2 := u_o1 x hx; omega)
  have u_o2 := fun x hx => (lb1 x hx).elim (fun h => Or.inl (u_ow x h)) (fun h => Or.inr (And.intro h (o2.blk x hx).2))
  refine ow_g (g_as rfl) rfl (ow_nil (tw_b (tw_region (ow_g (g_mv rfl) rfl (ow_g (g_add rfl rfl (by omega)) rfl ?_)))))
  refine ow_g (g_as rfl) rfl (ow_nil (tw_inv (Γ := Int × Value) ⟨i + 1, v2⟩ ⟨rfl, rfl, rfl, trivial⟩ (by (try dsimp only); omega) (⟨by omega, by omega, by rw [e1, joinB_snoc]; simpa [OwnB] using o2, hB⟩)))
 ·
  refine tw_exit rfl ?_
  refine tw_seq (tw_region (ow_g (g_mv rfl) rfl (ow_g (g_as rfl) rfl (ow_nil (tw_ret1 hfin Try.results40 rfl ?_)))))
  have hj : i.toNat = ls.length := by omega
  rw [hj, List.take_length] at ow
  exact ⟨ow, hB⟩
end Go.Proofs.Ytimeclfplaonkaa.W
namespace Go.Proofs.Ytimeclfplaonkaa.W
open Go Go.Eng Go.Byt
set_option linter.unusedVariables false
set_option linter.unusedSimpArgs false
def RdR (w : World) (p : Nat) (rest : List UInt8) (e : Int) : Prop := ∃ (bs : List UInt8) (at_ : Nat) (bw : Value), Bk w p 112 [bw, .int .i64 (at_ : Int), .int .i64 e] ∧ RdB w bw bs ∧ (∀ x, x ∈ vblk bw → x < p) ∧ at_ ≤ bs.length ∧ rest = bs.drop at_ ∧ bs.length ≤ 140737488355328
def RdA (w : World) (p : Nat) (bs : List UInt8) (bw : Value) (at_ : Nat) (e : Int) : Prop := Bk w p 112 [bw, .int .i64 (at_ : Int), .int .i64 e] ∧ RdB w bw bs ∧ (∀ x, x ∈ vblk bw → x < p) ∧ at_ ≤ bs.length ∧ bs.length ≤ 140737488355328
theorem RdR.keep {S : List Nat} {w w' : World} {p : Nat} {rest : List UInt8} {e : Int} (h : RdR w p rest e) (k : Keep S w w') (hS : ∀ x, x ≤ p → x ∉ S) : RdR w' p rest e := by
  obtain ⟨bs, a, bw, hb, hr, hn, h1⟩ := h; exact ⟨bs, a, bw, hb.keep k (hS p (Nat.le_refl _)), hr.keep k (fun x hx => hS x (Nat.le_of_lt (hn x hx))), hn, h1⟩
def RdRL (w : World) (lo p : Nat) (rest : List UInt8) (e : Int) : Prop := lo ≤ p ∧ ∃ (bs : List UInt8) (at_ : Nat) (bw : Value), Bk w p 112 [bw, .int .i64 (at_ : Int), .int .i64 e] ∧ RdB w bw bs ∧ (∀ x, x ∈ vblk bw → lo ≤ x ∧ x < p) ∧ at_ ≤ bs.length ∧ rest = bs.drop at_ ∧ bs.length ≤ 140737488355328
theorem RdRL.rdr {w : World} {lo p : Nat} {rest : List UInt8} {e : Int} (h : RdRL w lo p rest e) : RdR w p rest e := by obtain ⟨_, bs, a, bw, hb, hr, hn, h1⟩ := h; exact ⟨bs, a, bw, hb, hr, fun x hx => (hn x hx).2, h1⟩
theorem RdRL.keep {S : List Nat} {w w' : World} {lo p : Nat} {rest : List UInt8} {e : Int} (h : RdRL w lo p rest e) (k : Keep S w w') (hS : ∀ x, lo ≤ x → x ∉ S) : RdRL w' lo p rest e := by
  obtain ⟨h0, bs, a, bw, hb, hr, hn, h1⟩ := h; exact ⟨h0, bs, a, bw, hb.keep k (hS p h0), hr.keep k (fun x hx => hS x (hn x hx).1), hn, h1⟩
theorem RdRL.keep0 {w w' : World} {lo p : Nat} {rest : List UInt8} {e : Int} (h : RdRL w lo p rest e) (k : Keep [] w w') : RdRL w' lo p rest e := h.keep k (fun _ _ h => by cases h)
theorem RdA.rdR {w : World} {p at_ : Nat} {bs : List UInt8} {bw : Value} {e : Int} (h : RdA w p bs bw at_ e) : RdR w p (bs.drop at_) e := ⟨bs, at_, bw, h.1, h.2.1, h.2.2.1, h.2.2.2.1, rfl, h.2.2.2.2⟩
theorem RdR.rdA {w : World} {p : Nat} {rest : List UInt8} {e : Int} (h : RdR w p rest e) : ∃ bs bw at_, rest = bs.drop at_ ∧ RdA w p bs bw at_ e := by obtain ⟨bs, a, bw, h1, h2, h3, h4, h5, h6⟩ := h; exact ⟨bs, bw, a, h5, h1, h2, h3, h4, h6⟩
theorem RdR.lt {w : World} {p : Nat} {rest : List UInt8} {e : Int} (h : RdR w p rest e) : p < w.heap.size := by obtain ⟨_, _, _, hb, _⟩ := h; exact hb.lt
theorem RdR.keep0 {w w' : World} {p : Nat} {rest : List UInt8} {e : Int} (h : RdR w p rest e) (k : Keep [] w w') : RdR w' p rest e := by
  obtain ⟨bs, a, bw, hb, hr, h1⟩ := h; exact ⟨bs, a, bw, hb.keep0 k, hr.keep0 k, h1⟩
set_option maxRecDepth 100000 in
theorem rleft_any (p : Nat) (rest : List UInt8) (e : Int) (w : World) (h : RdR w p rest e) : Rets Try.prog 48 [.pointer (some ⟨p, 0, none⟩)] w (fun v w' => v = .int .i64 (rest.length : Int) ∧ Keep [] w w') := by
  obtain ⟨bs, at_, bw, hb, hr, hn, hal, rfl, hbl⟩ := h
  have hB : Keep [] w w := Keep.refl _ _
  have hcap := hr.vcap
  have hdl : (bs.drop at_).length = bs.length - at_ := List.length_drop
  refine rets_of_tw Try.func48 rfl (by decide) Try.ntmps48 rfl (fun fin _ hfin => ?_)
  refine tw_seq ?_
  refine tw_region ?_
  refine ow_g (g_as rfl) rfl ?_
  refine ow_nil ?_
  refine tw_seq ?_
  refine tw_drawn mixed [(0, _)] (fun jj v W => match jj with | 0 => v = .pointer (some ⟨p, 0, none⟩) | 1 => v = .pointer (some ⟨p, 0, none⟩) | 2 => v = .pointer (some ⟨p, 0 + 0, none⟩) | 3 => v = bw | 4 => v = .int .i64 (bs.length : Int) | 5 => v = .pointer (some ⟨p, 0, none⟩) | 6 => v = .pointer (some ⟨p, 0, none⟩) | 7 => v = .pointer (some ⟨p, 0 + 1, none⟩) | 8 => v = .int .i64 (at_ : Int) | 9 => v = .int .i64 ((bs.length : Int) - (at_ : Int)) | 10 => v = .int .i64 ((bs.length : Int) - (at_ : Int)) | _ => True) ⟨rfl, trivial⟩ (by decide) rfl ?_ ?_ ?_
  · intro jj v W W' h k
    match jj, h with
    | 0, h => exact h
    | 1, h => exact h
    | 2, h => exact h
    | 3, h => exact h
    | 4, h => exact h
    | 5, h => exact h
    | 6, h => exact h
    | 7, h => exact h
    | 8, h => exact h
    | 9, h => exact h
    | 10, h => exact h
    | _ + 11, _ => trivial
  · refine ⟨?_, ?_, ?_, ?_, ?_, ?_, ?_, ?_, ?_, ?_, ?_, trivial⟩
    · refine ⟨[], rfl, ?_⟩; rintro W1 hk vs hd
      replace hb := hb.keep0 hk
      replace hB := hB.trans hk
      refine ⟨true, fun a _ => rfl, fun _ => ?_, fun h => by cases h⟩
      refine does_sub [(0, _)] ⟨rfl, trivial⟩ ?_
      refine (Gives.does (g_mv rfl)).mono ?_
      rintro v W2 ⟨rfl, rfl⟩
      exact ⟨Keep.refl _ _, rfl⟩
    · refine ⟨[0], rfl, ?_⟩; rintro W1 hk vs hd
      have d0 : (vs 0) = .pointer (some ⟨p, 0, none⟩) := hd 0 (by decide)
      replace hb := hb.keep0 hk
      replace hB := hB.trans hk
      refine ⟨true, fun a _ => rfl, fun _ => ?_, fun h => by cases h⟩
      refine does_sub [(3, .pointer (some ⟨p, 0, none⟩))] ⟨congrArg some d0, trivial⟩ ?_
      refine (Gives.does (g_nilc rfl)).mono ?_
      rintro v W2 ⟨rfl, rfl⟩
      exact ⟨Keep.refl _ _, rfl⟩
    · refine ⟨[1], rfl, ?_⟩; rintro W1 hk vs hd
      have d1 : (vs 1) = .pointer (some ⟨p, 0, none⟩) := hd 1 (by decide)
      replace hb := hb.keep0 hk
      replace hB := hB.trans hk
      refine ⟨true, fun a _ => rfl, fun _ => ?_, fun h => by cases h⟩
      refine does_sub [(4, .pointer (some ⟨p, 0, none⟩))] ⟨congrArg some d1, trivial⟩ ?_
      refine (Gives.does (g_fa Try.underlying112 rfl ty23 (by decide) rfl)).mono ?_
      rintro v W2 ⟨rfl, rfl⟩
      exact ⟨Keep.refl _ _, rfl⟩
    · refine ⟨[2], rfl, ?_⟩; rintro W1 hk vs hd
      have d2 : (vs 2) = .pointer (some ⟨p, 0 + 0, none⟩) := hd 2 (by decide)
      replace hb := hb.keep0 hk
      replace hB := hB.trans hk
      refine ⟨true, fun a _ => rfl, fun _ => ?_, fun h => by cases h⟩
      refine does_sub [(5, .pointer (some ⟨p, 0 + 0, none⟩))] ⟨congrArg some d2, trivial⟩ ?_
      refine (Gives.does (g_ldb sc23 rfl (by assumption) rfl)).mono ?_
      rintro v W2 ⟨rfl, rfl⟩
      exact ⟨Keep.refl _ _, rfl⟩
    · refine ⟨[3], rfl, ?_⟩; rintro W1 hk vs hd
      have d3 : (vs 3) = bw := hd 3 (by decide)
      replace hb := hb.keep0 hk
      replace hB := hB.trans hk
      refine ⟨true, fun a _ => rfl, fun _ => ?_, fun h => by cases h⟩
      refine does_sub [(6, bw)] ⟨congrArg some d3, trivial⟩ ?_
      refine (Gives.does (g_len Try.underlying23 rfl (by first | assumption | exact Own.rd (by assumption) | exact Rd.keep0 (by assumption) hB | exact Own.rd (Own.keep0 (by assumption) hB)))).mono ?_
      rintro v W2 ⟨rfl, rfl⟩
      exact ⟨Keep.refl _ _, rfl⟩
    · refine ⟨[], rfl, ?_⟩; rintro W1 hk vs hd
      replace hb := hb.keep0 hk
      replace hB := hB.trans hk
      refine ⟨true, fun a _ => rfl, fun _ => ?_, fun h => by cases h⟩
      refine does_sub [(0, _)] ⟨rfl, trivial⟩ ?_
      refine (Gives.does (g_mv rfl)).mono ?_
      rintro v W2 ⟨rfl, rfl⟩
      exact ⟨Keep.refl _ _, rfl⟩
    · refine ⟨[5], rfl, ?_⟩; rintro W1 hk vs hd
      have d5 : (vs 5) = .pointer (some ⟨p, 0, none⟩) := hd 5 (by decide)
      replace hb := hb.keep0 hk
      replace hB := hB.trans hk
      refine ⟨true, fun a _ => rfl, fun _ => ?_, fun h => by cases h⟩
      refine does_sub [(8, .pointer (some ⟨p, 0, none⟩))] ⟨congrArg some d5, trivial⟩ ?_
      refine (Gives.does (g_nilc rfl)).mono ?_
      rintro v W2 ⟨rfl, rfl⟩
      exact ⟨Keep.refl _ _, rfl⟩
    · refine ⟨[6], rfl, ?_⟩; rintro W1 hk vs hd
      have d6 : (vs 6) = .pointer (some ⟨p, 0, none⟩) := hd 6 (by decide)
      replace hb := hb.keep0 hk
      replace hB := hB.trans hk
      refine ⟨true, fun a _ => rfl, fun _ => ?_, fun h => by cases h⟩
      refine does_sub [(9, .pointer (some ⟨p, 0, none⟩))] ⟨congrArg some d6, trivial⟩ ?_
      refine (Gives.does (g_fa Try.underlying112 rfl ty3 (by decide) rfl)).mono ?_
      rintro v W2 ⟨rfl, rfl⟩
      exact ⟨Keep.refl _ _, rfl⟩
    · refine ⟨[7], rfl, ?_⟩; rintro W1 hk vs hd
      have d7 : (vs 7) = .pointer (some ⟨p, 0 + 1, none⟩) := hd 7 (by decide)
      replace hb := hb.keep0 hk
      replace hB := hB.trans hk
      refine ⟨true, fun a _ => rfl, fun _ => ?_, fun h => by cases h⟩
      refine does_sub [(10, .pointer (some ⟨p, 0 + 1, none⟩))] ⟨congrArg some d7, trivial⟩ ?_
      refine (Gives.does (g_ldb sc3 rfl (by assumption) rfl)).mono ?_
      rintro v W2 ⟨rfl, rfl⟩
      exact ⟨Keep.refl _ _, rfl⟩
    · refine ⟨[4, 8], rfl, ?_⟩; rintro W1 hk vs hd
      have d4 : (vs 4) = .int .i64 (bs.length : Int) := hd 4 (by decide)
      have d8 : (vs 8) = .int .i64 (at_ : Int) := hd 8 (by decide)
      replace hb := hb.keep0 hk
      replace hB := hB.trans hk
      refine ⟨true, fun a _ => rfl, fun _ => ?_, fun h => by cases h⟩
      refine does_sub [(7, .int .i64 (bs.length : Int)), (11, .int .i64 (at_ : Int))] ⟨congrArg some d4, congrArg some d8, trivial⟩ ?_
      refine (Gives.does (g_sub rfl rfl (by omega))).mono ?_
      rintro v W2 ⟨rfl, rfl⟩
      exact ⟨Keep.refl _ _, rfl⟩
    · refine ⟨[9], rfl, ?_⟩; rintro W1 hk vs hd
      have d9 : (vs 9) = .int .i64 ((bs.length : Int) - (at_ : Int)) := hd 9 (by decide)
      replace hb := hb.keep0 hk
      replace hB := hB.trans hk
      refine ⟨true, fun a _ => rfl, fun _ => ?_, fun h => by cases h⟩
      refine does_sub [(12, .int .i64 ((bs.length : Int) - (at_ : Int)))] ⟨congrArg some d9, trivial⟩ ?_
      refine (Gives.does (g_as rfl)).mono ?_
      rintro v W2 ⟨rfl, rfl⟩
      exact ⟨Keep.refl _ _, rfl⟩
  rintro w1 k1 vs hv
  have z_k1 := k1.size
  replace hb := hb.keep0 k1
  replace hB := hB.trans k1
  have e2 : (vs 10) = .int .i64 ((bs.length : Int) - (at_ : Int)) := hv 10 (by decide) rfl
  refine tw_keep [(2, .int .i64 ((bs.length : Int) - (at_ : Int))), (0, _)] ⟨congrArg some e2, rfl, trivial⟩ ?_
  refine tw_ret1 hfin Try.results48 rfl ?_
  exact ⟨by congr 1; omega, hB⟩
set_option maxRecDepth 100000 in
theorem rnum_any (p : Nat) (rest : List UInt8) (e size : Int) (w : World) (h : RdR w p rest e) (hs : 0 ≤ size ∧ size ≤ rest.length) (h8 : size ≤ 7 ∨ (size = 8 ∧ (rest.getD 0 0).toNat < 64)) : Rets Try.prog 111 [.pointer (some ⟨p, 0, none⟩), .int .i64 size] w (fun v w' => v = .int .i64 (num (rest.take size.toNat)) ∧ Keep [] w w') := by
  obtain ⟨bs, at_, bw, hb, hr, hn, hal, rfl, hbl⟩ := h
  have hB : Keep [] w w := Keep.refl _ _
  have hcap := hr.vcap
  have hdl : (bs.drop at_).length = bs.length - at_ := List.length_drop
  have hbound : ∀ i : Int, 0 ≤ i → i + 1 ≤ size → 0 ≤ num ((bs.drop at_).take i.toNat) ∧ num ((bs.drop at_).take i.toNat) * 256 + 255 < 9223372036854775808 := num_take_bound hs.2 h8
  refine rets_of_tw Try.func111 rfl (by decide) Try.ntmps111 rfl (fun fin _ hfin => ?_)
  refine tw_seq ?_
  refine tw_region ?_
  refine ow_g (g_as rfl) rfl ?_
  refine ow_nil ?_
  refine tw_seq ?_
  refine tw_region ?_
  refine ow_g (g_as rfl) rfl ?_
  refine ow_nil ?_
  refine tw_seq ?_
  refine tw_seq ?_
  refine tw_region ?_
  refine ow_g (g_as rfl) rfl ?_
  refine ow_nil ?_
  refine tw_block ?_
  refine tw_loop (Γ := Int) (fun i => [(0, .pointer (some ⟨p, 0, none⟩)), (1, .int .i64 size), (5, .int .i64 (num ((bs.drop at_).take i.toNat))), (6, .int .i64 i)]) (fun i W => 0 ≤ i ∧ i ≤ size ∧ Keep [] w W) (fun i => (size - i).toNat) 0 ⟨rfl, rfl, rfl, rfl, trivial⟩ (⟨by decide, by omega, hB⟩) ?_
  rintro i w1 ⟨hi0, hi1, hB⟩
  refine tw_keep [(0, .pointer (some ⟨p, 0, none⟩)), (1, .int .i64 size), (5, .int .i64 (num ((bs.drop at_).take i.toNat))), (6, .int .i64 i)] ⟨rfl, rfl, rfl, rfl, trivial⟩ ?_
  replace hb := hb.keep0 hB
  refine tw_seq ?_
  refine tw_seq ?_
  refine tw_region ?_
  refine ow_g (g_mv rfl) rfl ?_
  refine ow_g (g_mv rfl) rfl ?_
  refine ow_g (g_lt rfl rfl) rfl ?_
  refine ow_nil ?_
  refine tw_if rfl (fun hc1 => ?_) (fun hc1 => ?_)
  · -- yes
    refine tw_skip ?_
    refine tw_seq ?_
    refine tw_block ?_
    obtain ⟨x, hx⟩ : ∃ x, (bs.drop at_)[i.toNat]? = some x := ⟨_, List.getElem?_eq_getElem (by omega)⟩
    have hgb : gb bs ((at_ : Int) + i) = x.toNat := by unfold gb; rw [List.getD_eq_getElem?_getD, show ((at_ : Int) + i).toNat = at_ + i.toNat from by omega, ← List.getElem?_drop, hx]; rfl
    have hxl := x.toNat_lt
    have hnum : num ((bs.drop at_).take (i + 1).toNat) = num ((bs.drop at_).take i.toNat) * 256 + x.toNat := by rw [show (i + 1).toNat = i.toNat + 1 from by omega, take_get hx, num_snoc]
    have hbd := hbound i hi0 (by omega)
    have hor : bits .or .i64 (num ((bs.drop at_).take i.toNat) * 256) (gb bs ((at_ : Int) + i)) = num ((bs.drop at_).take (i + 1).toNat) := by rw [hnum, hgb]; exact or_add 8 (by omega) (by omega) (by omega) (by omega) (by omega) (by omega)
    have hgr := gb_range bs ((at_ : Int) + i)
    refine tw_drawnT 16 mixed [(5, _), (0, _), (6, _), (1, _), (7, _), (8, _), (9, _)] (fun jj v W => match jj with | 0 => v = .int .i64 (num ((bs.drop at_).take i.toNat)) | 1 => v = .int .i64 ((num ((bs.drop at_).take i.toNat)) * 256) | 2 => v = .pointer (some ⟨p, 0, none⟩) | 3 => v = .pointer (some ⟨p, 0, none⟩) | 4 => v = .pointer (some ⟨p, 0 + 0, none⟩) | 5 => v = bw | 6 => v = .pointer (some ⟨p, 0, none⟩) | 7 => v = .pointer (some ⟨p, 0, none⟩) | 8 => v = .pointer (some ⟨p, 0 + 1, none⟩) | 9 => v = .int .i64 (at_ : Int) | 10 => v = .int .i64 i | 11 => v = .int .i64 ((at_ : Int) + i) | 12 => v = .pointer (some (ea bw ((((at_ : Int) + i)).toNat * 1))) | 13 => v = .int .u8 (gb bs (((at_ : Int) + i))) | 14 => v = .int .i64 (gb bs (((at_ : Int) + i))) | 15 => v = .int .i64 (bits .or .i64 ((num ((bs.drop at_).take i.toNat)) * 256) (gb bs (((at_ : Int) + i)))) | _ => True) ⟨rfl, rfl, rfl, rfl, rfl, rfl, rfl, trivial⟩ (by decide) (by decide) rfl ?_ ?_ ?_
    · intro jj v W W' h k
      match jj, h with
      | 0, h => exact h
      | 1, h => exact h
      | 2, h => exact h
      | 3, h => exact h
      | 4, h => exact h
      | 5, h => exact h
      | 6, h => exact h
      | 7, h => exact h
      | 8, h => exact h
      | 9, h => exact h
      | 10, h => exact h
      | 11, h => exact h
      | 12, h => exact h
      | 13, h => exact h
      | 14, h => exact h
      | 15, h => exact h
      | _ + 16, _ => trivial
    · refine ⟨?_, ?_, ?_, ?_, ?_, ?_, ?_, ?_, ?_, ?_, ?_, ?_, ?_, ?_, ?_, ?_, trivial⟩
      · refine ⟨[], rfl, ?_⟩; rintro W1 hk vs hd
        replace hb := hb.keep0 hk
        replace hB := hB.trans hk
        refine ⟨true, fun a _ => rfl, fun _ => ?_, fun h => by cases h⟩
        refine does_sub [(5, _)] ⟨rfl, trivial⟩ ?_
        refine (Gives.does (g_mv rfl)).mono ?_
        rintro v W2 ⟨rfl, rfl⟩
        exact ⟨Keep.refl _ _, rfl⟩
      · refine ⟨[0], rfl, ?_⟩; rintro W1 hk vs hd
        have d0 : (vs 0) = .int .i64 (num ((bs.drop at_).take i.toNat)) := hd 0 (by decide)
        replace hb := hb.keep0 hk
        replace hB := hB.trans hk
        refine ⟨true, fun a _ => rfl, fun _ => ?_, fun h => by cases h⟩
        refine does_sub [(12, .int .i64 (num ((bs.drop at_).take i.toNat)))] ⟨congrArg some d0, trivial⟩ ?_
        refine (Gives.does (g_shlic (m := 256) rfl rfl (by decide) (by decide) (by omega))).mono ?_
        rintro v W2 ⟨rfl, rfl⟩
        exact ⟨Keep.refl _ _, rfl⟩
      · refine ⟨[], rfl, ?_⟩; rintro W1 hk vs hd
        replace hb := hb.keep0 hk
        replace hB := hB.trans hk
        refine ⟨true, fun a _ => rfl, fun _ => ?_, fun h => by cases h⟩
        refine does_sub [(0, _)] ⟨rfl, trivial⟩ ?_
        refine (Gives.does (g_mv rfl)).mono ?_
        rintro v W2 ⟨rfl, rfl⟩
        exact ⟨Keep.refl _ _, rfl⟩
      · refine ⟨[2], rfl, ?_⟩; rintro W1 hk vs hd
        have d2 : (vs 2) = .pointer (some ⟨p, 0, none⟩) := hd 2 (by decide)
        replace hb := hb.keep0 hk
        replace hB := hB.trans hk
        refine ⟨true, fun a _ => rfl, fun _ => ?_, fun h => by cases h⟩
        refine does_sub [(14, .pointer (some ⟨p, 0, none⟩))] ⟨congrArg some d2, trivial⟩ ?_
        refine (Gives.does (g_nilc rfl)).mono ?_
        rintro v W2 ⟨rfl, rfl⟩
        exact ⟨Keep.refl _ _, rfl⟩
      · refine ⟨[3], rfl, ?_⟩; rintro W1 hk vs hd
        have d3 : (vs 3) = .pointer (some ⟨p, 0, none⟩) := hd 3 (by decide)
        replace hb := hb.keep0 hk
        replace hB := hB.trans hk
        refine ⟨true, fun a _ => rfl, fun _ => ?_, fun h => by cases h⟩
        refine does_sub [(15, .pointer (some ⟨p, 0, none⟩))] ⟨congrArg some d3, trivial⟩ ?_
        refine (Gives.does (g_fa Try.underlying112 rfl ty23 (by decide) rfl)).mono ?_
        rintro v W2 ⟨rfl, rfl⟩
        exact ⟨Keep.refl _ _, rfl⟩
      · refine ⟨[4], rfl, ?_⟩; rintro W1 hk vs hd
        have d4 : (vs 4) = .pointer (some ⟨p, 0 + 0, none⟩) := hd 4 (by decide)
        replace hb := hb.keep0 hk
        replace hB := hB.trans hk
        refine ⟨true, fun a _ => rfl, fun _ => ?_, fun h => by cases h⟩
        refine does_sub [(16, .pointer (some ⟨p, 0 + 0, none⟩))] ⟨congrArg some d4, trivial⟩ ?_
        refine (Gives.does (g_ldb sc23 rfl (by assumption) rfl)).mono ?_
        rintro v W2 ⟨rfl, rfl⟩
        exact ⟨Keep.refl _ _, rfl⟩
      · refine ⟨[], rfl, ?_⟩; rintro W1 hk vs hd
        replace hb := hb.keep0 hk
        replace hB := hB.trans hk
        refine ⟨true, fun a _ => rfl, fun _ => ?_, fun h => by cases h⟩
        refine does_sub [(0, _)] ⟨rfl, trivial⟩ ?_
        refine (Gives.does (g_mv rfl)).mono ?_
        rintro v W2 ⟨rfl, rfl⟩
        exact ⟨Keep.refl _ _, rfl⟩
      · refine ⟨[6], rfl, ?_⟩; rintro W1 hk vs hd
        have d6 : (vs 6) = .pointer (some ⟨p, 0, none⟩) := hd 6 (by decide)
        replace hb := hb.keep0 hk
        replace hB := hB.trans hk
        refine ⟨true, fun a _ => rfl, fun _ => ?_, fun h => by cases h⟩
        refine does_sub [(18, .pointer (some ⟨p, 0, none⟩))] ⟨congrArg some d6, trivial⟩ ?_
        refine (Gives.does (g_nilc rfl)).mono ?_
        rintro v W2 ⟨rfl, rfl⟩
        exact ⟨Keep.refl _ _, rfl⟩
      · refine ⟨[7], rfl, ?_⟩; rintro W1 hk vs hd
        have d7 : (vs 7) = .pointer (some ⟨p, 0, none⟩) := hd 7 (by decide)
        replace hb := hb.keep0 hk
        replace hB := hB.trans hk
        refine ⟨true, fun a _ => rfl, fun _ => ?_, fun h => by cases h⟩
        refine does_sub [(19, .pointer (some ⟨p, 0, none⟩))] ⟨congrArg some d7, trivial⟩ ?_
        refine (Gives.does (g_fa Try.underlying112 rfl ty3 (by decide) rfl)).mono ?_
        rintro v W2 ⟨rfl, rfl⟩
        exact ⟨Keep.refl _ _, rfl⟩
      · refine ⟨[8], rfl, ?_⟩; rintro W1 hk vs hd
        have d8 : (vs 8) = .pointer (some ⟨p, 0 + 1, none⟩) := hd 8 (by decide)
        replace hb := hb.keep0 hk
        replace hB := hB.trans hk
        refine ⟨true, fun a _ => rfl, fun _ => ?_, fun h => by cases h⟩
        refine does_sub [(20, .pointer (some ⟨p, 0 + 1, none⟩))] ⟨congrArg some d8, trivial⟩ ?_
        refine (Gives.does (g_ldb sc3 rfl (by assumption) rfl)).mono ?_
        rintro v W2 ⟨rfl, rfl⟩
        exact ⟨Keep.refl _ _, rfl⟩
      · refine ⟨[], rfl, ?_⟩; rintro W1 hk vs hd
        replace hb := hb.keep0 hk
        replace hB := hB.trans hk
        refine ⟨true, fun a _ => rfl, fun _ => ?_, fun h => by cases h⟩
        refine does_sub [(6, _)] ⟨rfl, trivial⟩ ?_
        refine (Gives.does (g_mv rfl)).mono ?_
        rintro v W2 ⟨rfl, rfl⟩
        exact ⟨Keep.refl _ _, rfl⟩
      · refine ⟨[9, 10], rfl, ?_⟩; rintro W1 hk vs hd
        have d9 : (vs 9) = .int .i64 (at_ : Int) := hd 9 (by decide)
        have d10 : (vs 10) = .int .i64 i := hd 10 (by decide)
        replace hb := hb.keep0 hk
        replace hB := hB.trans hk
        refine ⟨true, fun a _ => rfl, fun _ => ?_, fun h => by cases h⟩
        refine does_sub [(21, .int .i64 (at_ : Int)), (22, .int .i64 i)] ⟨congrArg some d9, congrArg some d10, trivial⟩ ?_
        refine (Gives.does (g_add rfl rfl (by omega))).mono ?_
        rintro v W2 ⟨rfl, rfl⟩
        exact ⟨Keep.refl _ _, rfl⟩
      · refine ⟨[5, 11], rfl, ?_⟩; rintro W1 hk vs hd
        have d5 : (vs 5) = bw := hd 5 (by decide)
        have d11 : (vs 11) = .int .i64 ((at_ : Int) + i) := hd 11 (by decide)
        replace hb := hb.keep0 hk
        replace hB := hB.trans hk
        refine ⟨true, fun a _ => rfl, fun _ => ?_, fun h => by cases h⟩
        refine does_sub [(17, bw), (23, .int .i64 ((at_ : Int) + i))] ⟨congrArg some d5, congrArg some d11, trivial⟩ ?_
        refine (Gives.does (g_ix Try.underlying23 ty5 rfl (by first | assumption | exact Own.rd (by assumption) | exact Rd.keep0 (by assumption) hB | exact Own.rd (Own.keep0 (by assumption) hB)) rfl (by omega))).mono ?_
        rintro v W2 ⟨rfl, rfl⟩
        exact ⟨Keep.refl _ _, rfl⟩
      · refine ⟨[12], rfl, ?_⟩; rintro W1 hk vs hd
        have d12 : (vs 12) = .pointer (some (ea bw ((((at_ : Int) + i)).toNat * 1))) := hd 12 (by decide)
        replace hb := hb.keep0 hk
        replace hB := hB.trans hk
        refine ⟨true, fun a _ => rfl, fun _ => ?_, fun h => by cases h⟩
        refine does_sub [(24, .pointer (some (ea bw ((((at_ : Int) + i)).toNat * 1))))] ⟨congrArg some d12, trivial⟩ ?_
        refine (Gives.does (g_ldB sc5 rfl (by first | assumption | exact Own.rd (by assumption) | exact Rd.keep0 (by assumption) hB | exact Own.rd (Own.keep0 (by assumption) hB)) (by omega))).mono ?_
        rintro v W2 ⟨rfl, rfl⟩
        exact ⟨Keep.refl _ _, rfl⟩
      · refine ⟨[13], rfl, ?_⟩; rintro W1 hk vs hd
        have d13 : (vs 13) = .int .u8 (gb bs (((at_ : Int) + i))) := hd 13 (by decide)
        replace hb := hb.keep0 hk
        replace hB := hB.trans hk
        refine ⟨true, fun a _ => rfl, fun _ => ?_, fun h => by cases h⟩
        refine does_sub [(25, .int .u8 (gb bs (((at_ : Int) + i))))] ⟨congrArg some d13, trivial⟩ ?_
        refine (Gives.does (g_cvi (by rw [Try.underlying5]; rfl) Try.underlying3 rfl (by omega))).mono ?_
        rintro v W2 ⟨rfl, rfl⟩
        exact ⟨Keep.refl _ _, rfl⟩
      · refine ⟨[1, 14], rfl, ?_⟩; rintro W1 hk vs hd
        have d1 : (vs 1) = .int .i64 ((num ((bs.drop at_).take i.toNat)) * 256) := hd 1 (by decide)
        have d14 : (vs 14) = .int .i64 (gb bs (((at_ : Int) + i))) := hd 14 (by decide)
        replace hb := hb.keep0 hk
        replace hB := hB.trans hk
        refine ⟨true, fun a _ => rfl, fun _ => ?_, fun h => by cases h⟩
        refine does_sub [(13, .int .i64 ((num ((bs.drop at_).take i.toNat)) * 256)), (26, .int .i64 (gb bs (((at_ : Int) + i))))] ⟨congrArg some d1, congrArg some d14, trivial⟩ ?_
        refine (Gives.does (g_or rfl rfl)).mono ?_
        rintro v W2 ⟨rfl, rfl⟩
        exact ⟨Keep.refl _ _, rfl⟩
    rintro w2 k1 vs hv
    have z_k1 := k1.size
    replace hb := hb.keep0 k1
    replace hB := hB.trans k1
    have e27 : (vs 15) = .int .i64 (bits .or .i64 ((num ((bs.drop at_).take i.toNat)) * 256) (gb bs (((at_ : Int) + i)))) := hv 15 (by decide) rfl
    refine ow_keep [(27, .int .i64 (bits .or .i64 ((num ((bs.drop at_).take i.toNat)) * 256) (gb bs (((at_ : Int) + i))))), (5, _), (0, _), (6, _), (1, _), (7, _), (8, _), (9, _)] ⟨congrArg some e27, rfl, rfl, rfl, rfl, rfl, rfl, rfl, trivial⟩ ?_
    refine ow_g (g_as rfl) rfl ?_
    refine ow_nil ?_
    refine tw_b ?_
    refine tw_region ?_
    refine ow_g (g_mv rfl) rfl ?_
    refine ow_g (g_add rfl rfl (by omega)) rfl ?_
    refine ow_g (g_as rfl) rfl ?_
    refine ow_nil ?_
    refine tw_inv (Γ := Int) (i + 1) ⟨rfl, rfl, congrArg (fun z : Int => some (Value.int .i64 z)) hor, rfl, trivial⟩ (by (try dsimp only); omega) (⟨by omega, by omega, hB⟩)
  · -- no
    refine tw_exit rfl ?_
    refine tw_seq ?_
    refine tw_region ?_
    refine ow_g (g_mv rfl) rfl ?_
    refine ow_g (g_as rfl) rfl ?_
    refine ow_nil ?_
    refine tw_ret1 hfin Try.results111 rfl ?_
    obtain rfl : i = size := by omega
    exact ⟨rfl, hB⟩
set_option maxRecDepth 100000 in
theorem rnewL_any (v : Value) (xs : List UInt8) (w : World) (hv : RdB w v xs) (hx : xs.length ≤ 140737488355328) : Rets Try.prog 46 [v] w (fun r w' => ∃ p, r = .pointer (some ⟨p, 0, none⟩) ∧ RdRL w' w.heap.size p xs 0 ∧ Keep [] w w') := by
 have hB : Keep [] w w := Keep.refl _ _
 refine rets_of_tw Try.func46 rfl (by decide) Try.ntmps46 rfl (fun fin _ hfin => ?_)
 refine tw_seq (tw_region (ow_g (g_as rfl) rfl (ow_nil (tw_seq (tw_region (ow_d (d_bs (m := 0) (xs := []) (vs := []) Try.underlying23 ty5 (by decide) rfl rfl rfl (by first | (simp; done) | (intro v hv; rw [List.mem_singleton] at hv; subst hv; rfl)) (by decide)) rfl ?_))))))
 rintro v1 w1 ⟨o1, nn1, lb1, k1, z1⟩
 have z_k1 := k1.size
 replace hB := hB.trans k1
 have u_o1 := o1.blk
 replace o1 : Own w1 _ _ 1 v1 0 (bv []) := o1
 refine ow_g (g_mv rfl) rfl (ow_d (d_appB  Try.underlying23 ty5 rfl (by first | assumption | exact own_nil _ _ _ _) rfl (by first | assumption | exact Own.rd ‹_› | exact Rd.keep0 ‹_› hB | exact Own.rd (Own.keep0 ‹_› hB)) (by first | omega | (simp only [bv_length, List.length_append, Int.toNat_natCast] at *; omega)) (by have := hB.size; omega)) rfl ?_)
 rintro v2 w2 ⟨o2, k2, lb2, nn2⟩
 have z_k2 := k2.size
 replace hB := hB.new k2 (fun x hx => .inl (o1.blk x hx).1)
 have u_o2 := fun x hx => (lb2 x hx).elim (fun h => Or.inl (u_o1 x h)) (fun h => Or.inr (And.intro h (o2.blk x hx).2))
 refine ow_g (g_bld (idx := [0]) (xs := [.tmp 5]) (vs := [_]) (css := [[_]]) (out := [_, _, _]) pl112 ty112 rfl rfl ⟨Rd.cells (by first | assumption | exact Own.rd ‹_› | exact Rd.keep0 ‹_› hB | exact Own.rd (Own.keep0 ‹_› hB)), trivial⟩ rfl rfl) rfl ?_
 refine ow_d (d_box (cs := [_, _, _]) rfl rfl) rfl ?_
 rintro _ w3 ⟨b1, rfl, eb1, hb1, k3, z2⟩
 have z_k3 := k3.size
 replace o2 := o2.keep0 k3
 replace hB := hB.trans k3
 refine ow_g (g_as rfl) rfl (ow_nil (tw_ret1 hfin Try.results46 rfl ?_))
 exact ⟨_, rfl, ⟨by omega, xs, 0, _, hb1, by simpa using o2.rd, fun x hx => by have := u_o2 x hx; omega, Nat.zero_le _, rfl, hx⟩, hB⟩
set_option maxRecDepth 100000 in
theorem rrlen_any (p at_ : Nat) (bs : List UInt8) (bw : Value) (e : Int) (w : World) (h : RdA w p bs bw at_ e) : Rets Try.prog 88 [.pointer (some ⟨p, 0, none⟩)] w (fun v w' => ∃ r a2, r = rLen (bs.drop at_) e ∧ v = .int .i64 r.1 ∧ RdA w' p bs bw a2 r.2.2 ∧ r.2.1 = bs.drop a2 ∧ Keep [p] w w') := by
  obtain ⟨hb, hr, hn, hal, hbl⟩ := h
  have hB : Keep [p] w w := Keep.refl _ _
  have hcap := hr.vcap
  have hdl : (bs.drop at_).length = bs.length - at_ := List.length_drop
  have hg0 : gb bs (at_ : Int) = (((bs.drop at_).getD 0 0).toNat : Int) := by unfold gb; rw [List.getD_eq_getElem?_getD, List.getD_eq_getElem?_getD, List.getElem?_drop, Int.toNat_natCast, Nat.add_zero]
  have hgr := gb_range bs (at_ : Int)
  have hnb : ∀ n, n ≤ 7 → 0 ≤ num ((bs.drop at_).take n) ∧ num ((bs.drop at_).take n) < 9223372036854775808 := num_small (bs.drop at_)
  have htop0 : (bs.drop at_).length = 0 → top (bs.drop at_) = 0 := by intro h0; rw [List.length_eq_zero_iff] at h0; rw [h0]; rfl
  refine rets_of_tw Try.func88 rfl (by decide) Try.ntmps88 rfl (fun fin _ hfin => ?_)
  refine tw_seq ?_
  refine tw_region ?_
  refine ow_g (g_as rfl) rfl ?_
  refine ow_nil ?_
  refine tw_seq ?_
  refine tw_seq ?_
  refine tw_region ?_
  refine ow_g (g_mv rfl) rfl ?_
  refine ow_g (g_nilc rfl) rfl ?_
  refine ow_g (g_fa Try.underlying112 rfl ty3 (by decide) rfl) rfl ?_
  refine ow_g (g_ldb sc3 rfl (by assumption) rfl) rfl ?_
  refine ow_g (g_ne rfl rfl) rfl ?_
  refine ow_nil ?_
  refine tw_if rfl (fun hc1 => ?_) (fun hc1 => ?_)
  · -- yes
    refine tw_seq ?_
    refine tw_region ?_
    refine ow_g (g_as rfl) rfl ?_
    refine ow_nil ?_
    refine tw_ret1 hfin Try.results88 rfl ?_
    refine ⟨(0, bs.drop at_, e), at_, ?_, rfl, ⟨hb, hr, hn, by omega, hbl⟩, rfl, hB⟩
    unfold rLen
    try rw [htop]
    try simp only [Nat.reducePow, Nat.reduceMul, Nat.reduceSub, Int.reducePow]
    repeat (first | rw [if_pos (by assumption)] | rw [if_neg (by assumption)] | rw [if_pos (by omega)] | rw [if_neg (by omega)])
    all_goals first | rfl | (refine Prod.ext rfl (Prod.ext rfl ?_); show _ = _; dsimp only; omega)
  · -- no
    refine tw_skip ?_
    refine tw_seq ?_
    refine tw_seq ?_
    refine tw_region ?_
    refine ow_g (g_mv rfl) rfl ?_
    refine ow_d (d_call (vs := [_]) rfl (rleft_any _ _ _ _ (by exact ⟨bs, at_, bw, by assumption, by assumption, hn, hal, rfl, hbl⟩))) rfl ?_
    rintro _ w1 ⟨rfl, k1⟩
    have z_k1 := k1.size
    replace hb := hb.keep0 k1
    replace hr := hr.keep0 k1
    replace hB := hB.trans k1.weak
    refine ow_g (g_eq rfl rfl) rfl ?_
    refine ow_nil ?_
    refine tw_if rfl (fun hc2 => ?_) (fun hc2 => ?_)
    · -- yes
      refine tw_seq ?_
      refine tw_region ?_
      refine ow_g (g_mv rfl) rfl ?_
      refine ow_g (g_nilc rfl) rfl ?_
      refine ow_g (g_fa Try.underlying112 rfl ty3 (by decide) rfl) rfl ?_
      refine ow_d0 (d_st ty3 rfl rfl rfl hb rfl) ?_
      rintro _ w2 ⟨hb1, k2, z1⟩
      have z_k2 := k2.size
      replace hr := hr.keep k2 (fun x hx hm => Nat.ne_of_lt (hn x hx) (List.mem_singleton.1 hm))
      replace hB := hB.trans k2
      refine ow_nil ?_
      refine tw_seq ?_
      refine tw_region ?_
      refine ow_g (g_as rfl) rfl ?_
      refine ow_nil ?_
      refine tw_ret1 hfin Try.results88 rfl ?_
      have htop := htop0 (by omega)
      refine ⟨(0, bs.drop at_, 20), at_, ?_, rfl, ⟨hb1, hr, hn, by omega, hbl⟩, rfl, hB⟩
      unfold rLen
      try rw [htop]
      try simp only [Nat.reducePow, Nat.reduceMul, Nat.reduceSub, Int.reducePow]
      repeat (first | rw [if_pos (by assumption)] | rw [if_neg (by assumption)] | rw [if_pos (by omega)] | rw [if_neg (by omega)])
      all_goals first | rfl | (refine Prod.ext rfl (Prod.ext rfl ?_); show _ = _; dsimp only; omega)
    · -- no
      refine tw_skip ?_
      refine tw_seq ?_
      refine tw_drawnT 12 mixed [(0, _), (2, _), (6, _), (7, _), (8, _), (9, _), (10, _), (11, _), (12, _), (13, _)] (fun jj v W => match jj with | 0 => v = .pointer (some ⟨p, 0, none⟩) | 1 => v = .pointer (some ⟨p, 0, none⟩) | 2 => v = .pointer (some ⟨p, 0 + 0, none⟩) | 3 => v = bw | 4 => v = .pointer (some ⟨p, 0, none⟩) | 5 => v = .pointer (some ⟨p, 0, none⟩) | 6 => v = .pointer (some ⟨p, 0 + 1, none⟩) | 7 => v = .int .i64 (at_ : Int) | 8 => v = .pointer (some (ea bw (((at_ : Int)).toNat * 1))) | 9 => v = .int .u8 (gb bs ((at_ : Int))) | 10 => v = .int .u8 ((gb bs ((at_ : Int))) / 64) | 11 => v = .int .i64 ((gb bs ((at_ : Int))) / 64) | _ => True) ⟨rfl, rfl, rfl, rfl, rfl, rfl, rfl, rfl, rfl, rfl, trivial⟩ (by decide) (by decide) rfl ?_ ?_ ?_
      · intro jj v W W' h k
        match jj, h with
        | 0, h => exact h
        | 1, h => exact h
        | 2, h => exact h
        | 3, h => exact h
        | 4, h => exact h
        | 5, h => exact h
        | 6, h => exact h
        | 7, h => exact h
        | 8, h => exact h
        | 9, h => exact h
        | 10, h => exact h
        | 11, h => exact h
        | _ + 12, _ => trivial
      · refine ⟨?_, ?_, ?_, ?_, ?_, ?_, ?_, ?_, ?_, ?_, ?_, ?_, trivial⟩
        · refine ⟨[], rfl, ?_⟩; rintro W1 hk vs hd
          replace hb := hb.keep0 hk
          replace hr := hr.keep0 hk
          replace hB := hB.trans hk.weak
          refine ⟨true, fun a _ => rfl, fun _ => ?_, fun h => by cases h⟩
          refine does_sub [(0, _)] ⟨rfl, trivial⟩ ?_
          refine (Gives.does (g_mv rfl)).mono ?_
          rintro v W2 ⟨rfl, rfl⟩
          exact ⟨Keep.refl _ _, rfl⟩
        · refine ⟨[0], rfl, ?_⟩; rintro W1 hk vs hd
          have d0 : (vs 0) = .pointer (some ⟨p, 0, none⟩) := hd 0 (by decide)
          replace hb := hb.keep0 hk
          replace hr := hr.keep0 hk
          replace hB := hB.trans hk.weak
          refine ⟨true, fun a _ => rfl, fun _ => ?_, fun h => by cases h⟩
          refine does_sub [(17, .pointer (some ⟨p, 0, none⟩))] ⟨congrArg some d0, trivial⟩ ?_
          refine (Gives.does (g_nilc rfl)).mono ?_
          rintro v W2 ⟨rfl, rfl⟩
          exact ⟨Keep.refl _ _, rfl⟩
        · refine ⟨[1], rfl, ?_⟩; rintro W1 hk vs hd
          have d1 : (vs 1) = .pointer (some ⟨p, 0, none⟩) := hd 1 (by decide)
          replace hb := hb.keep0 hk
          replace hr := hr.keep0 hk
          replace hB := hB.trans hk.weak
          refine ⟨true, fun a _ => rfl, fun _ => ?_, fun h => by cases h⟩
          refine does_sub [(18, .pointer (some ⟨p, 0, none⟩))] ⟨congrArg some d1, trivial⟩ ?_
          refine (Gives.does (g_fa Try.underlying112 rfl ty23 (by decide) rfl)).mono ?_
          rintro v W2 ⟨rfl, rfl⟩
          exact ⟨Keep.refl _ _, rfl⟩
        · refine ⟨[2], rfl, ?_⟩; rintro W1 hk vs hd
          have d2 : (vs 2) = .pointer (some ⟨p, 0 + 0, none⟩) := hd 2 (by decide)
          replace hb := hb.keep0 hk
          replace hr := hr.keep0 hk
          replace hB := hB.trans hk.weak
          refine ⟨true, fun a _ => rfl, fun _ => ?_, fun h => by cases h⟩
          refine does_sub [(19, .pointer (some ⟨p, 0 + 0, none⟩))] ⟨congrArg some d2, trivial⟩ ?_
          refine (Gives.does (g_ldb sc23 rfl (by assumption) rfl)).mono ?_
          rintro v W2 ⟨rfl, rfl⟩
          exact ⟨Keep.refl _ _, rfl⟩
        · refine ⟨[], rfl, ?_⟩; rintro W1 hk vs hd
          replace hb := hb.keep0 hk
          replace hr := hr.keep0 hk
          replace hB := hB.trans hk.weak
          refine ⟨true, fun a _ => rfl, fun _ => ?_, fun h => by cases h⟩
          refine does_sub [(0, _)] ⟨rfl, trivial⟩ ?_
          refine (Gives.does (g_mv rfl)).mono ?_
          rintro v W2 ⟨rfl, rfl⟩
          exact ⟨Keep.refl _ _, rfl⟩
        · refine ⟨[4], rfl, ?_⟩; rintro W1 hk vs hd
          have d4 : (vs 4) = .pointer (some ⟨p, 0, none⟩) := hd 4 (by decide)
          replace hb := hb.keep0 hk
          replace hr := hr.keep0 hk
          replace hB := hB.trans hk.weak
          refine ⟨true, fun a _ => rfl, fun _ => ?_, fun h => by cases h⟩
          refine does_sub [(21, .pointer (some ⟨p, 0, none⟩))] ⟨congrArg some d4, trivial⟩ ?_
          refine (Gives.does (g_nilc rfl)).mono ?_
          rintro v W2 ⟨rfl, rfl⟩
          exact ⟨Keep.refl _ _, rfl⟩
        · refine ⟨[5], rfl, ?_⟩; rintro W1 hk vs hd
          have d5 : (vs 5) = .pointer (some ⟨p, 0, none⟩) := hd 5 (by decide)
          replace hb := hb.keep0 hk
          replace hr := hr.keep0 hk
          replace hB := hB.trans hk.weak
          refine ⟨true, fun a _ => rfl, fun _ => ?_, fun h => by cases h⟩
          refine does_sub [(22, .pointer (some ⟨p, 0, none⟩))] ⟨congrArg some d5, trivial⟩ ?_
          refine (Gives.does (g_fa Try.underlying112 rfl ty3 (by decide) rfl)).mono ?_
          rintro v W2 ⟨rfl, rfl⟩
          exact ⟨Keep.refl _ _, rfl⟩
        · refine ⟨[6], rfl, ?_⟩; rintro W1 hk vs hd
          have d6 : (vs 6) = .pointer (some ⟨p, 0 + 1, none⟩) := hd 6 (by decide)
          replace hb := hb.keep0 hk
          replace hr := hr.keep0 hk
          replace hB := hB.trans hk.weak
          refine ⟨true, fun a _ => rfl, fun _ => ?_, fun h => by cases h⟩
          refine does_sub [(23, .pointer (some ⟨p, 0 + 1, none⟩))] ⟨congrArg some d6, trivial⟩ ?_
          refine (Gives.does (g_ldb sc3 rfl (by assumption) rfl)).mono ?_
          rintro v W2 ⟨rfl, rfl⟩
          exact ⟨Keep.refl _ _, rfl⟩
        · refine ⟨[3, 7], rfl, ?_⟩; rintro W1 hk vs hd
          have d3 : (vs 3) = bw := hd 3 (by decide)
          have d7 : (vs 7) = .int .i64 (at_ : Int) := hd 7 (by decide)
          replace hb := hb.keep0 hk
          replace hr := hr.keep0 hk
          replace hB := hB.trans hk.weak
          refine ⟨true, fun a _ => rfl, fun _ => ?_, fun h => by cases h⟩
          refine does_sub [(20, bw), (24, .int .i64 (at_ : Int))] ⟨congrArg some d3, congrArg some d7, trivial⟩ ?_
          refine (Gives.does (g_ix Try.underlying23 ty5 rfl (by first | assumption | exact Own.rd (by assumption) | exact Rd.keep0 (by assumption) hB | exact Own.rd (Own.keep0 (by assumption) hB)) rfl (by omega))).mono ?_
          rintro v W2 ⟨rfl, rfl⟩
          exact ⟨Keep.refl _ _, rfl⟩
        · refine ⟨[8], rfl, ?_⟩; rintro W1 hk vs hd
          have d8 : (vs 8) = .pointer (some (ea bw (((at_ : Int)).toNat * 1))) := hd 8 (by decide)
          replace hb := hb.keep0 hk
          replace hr := hr.keep0 hk
          replace hB := hB.trans hk.weak
          refine ⟨true, fun a _ => rfl, fun _ => ?_, fun h => by cases h⟩
          refine does_sub [(25, .pointer (some (ea bw (((at_ : Int)).toNat * 1))))] ⟨congrArg some d8, trivial⟩ ?_
          refine (Gives.does (g_ldB sc5 rfl (by first | assumption | exact Own.rd (by assumption) | exact Rd.keep0 (by assumption) hB | exact Own.rd (Own.keep0 (by assumption) hB)) (by omega))).mono ?_
          rintro v W2 ⟨rfl, rfl⟩
          exact ⟨Keep.refl _ _, rfl⟩
        · refine ⟨[9], rfl, ?_⟩; rintro W1 hk vs hd
          have d9 : (vs 9) = .int .u8 (gb bs ((at_ : Int))) := hd 9 (by decide)
          replace hb := hb.keep0 hk
          replace hr := hr.keep0 hk
          replace hB := hB.trans hk.weak
          refine ⟨true, fun a _ => rfl, fun _ => ?_, fun h => by cases h⟩
          refine does_sub [(26, .int .u8 (gb bs ((at_ : Int))))] ⟨congrArg some d9, trivial⟩ ?_
          refine (Gives.does (g_shrc (m := 64) rfl rfl (by decide) (by decide))).mono ?_
          rintro v W2 ⟨rfl, rfl⟩
          exact ⟨Keep.refl _ _, rfl⟩
        · refine ⟨[10], rfl, ?_⟩; rintro W1 hk vs hd
          have d10 : (vs 10) = .int .u8 ((gb bs ((at_ : Int))) / 64) := hd 10 (by decide)
          replace hb := hb.keep0 hk
          replace hr := hr.keep0 hk
          replace hB := hB.trans hk.weak
          refine ⟨true, fun a _ => rfl, fun _ => ?_, fun h => by cases h⟩
          refine does_sub [(27, .int .u8 ((gb bs ((at_ : Int))) / 64))] ⟨congrArg some d10, trivial⟩ ?_
          refine (Gives.does (g_cvi (by rw [Try.underlying5]; rfl) Try.underlying3 rfl (by omega))).mono ?_
          rintro v W2 ⟨rfl, rfl⟩
          exact ⟨Keep.refl _ _, rfl⟩
      rintro w3 k3 vs hv
      have z_k3 := k3.size
      replace hb := hb.keep0 k3
      replace hr := hr.keep0 k3
      replace hB := hB.trans k3.weak
      have e28 : (vs 11) = .int .i64 ((gb bs ((at_ : Int))) / 64) := hv 11 (by decide) rfl
      refine ow_keep [(28, .int .i64 ((gb bs ((at_ : Int))) / 64)), (0, _), (2, _), (6, _), (7, _), (8, _), (9, _), (10, _), (11, _), (12, _), (13, _)] ⟨congrArg some e28, rfl, rfl, rfl, rfl, rfl, rfl, rfl, rfl, rfl, rfl, trivial⟩ ?_
      refine ow_g (g_as rfl) rfl ?_
      refine ow_nil ?_
      refine tw_seq ?_
      refine tw_seq ?_
      rcases (show gb bs (at_ : Int) / 64 = 0 ∨ gb bs (at_ : Int) / 64 = 1 ∨ gb bs (at_ : Int) / 64 = 2 ∨ gb bs (at_ : Int) / 64 = 3 by omega) with hq | hq | hq | hq
      · have htop : top (bs.drop at_) = 0 := by unfold top; omega
        rw [hq]
        refine tw_region ?_
        refine ow_g (g_mv rfl) rfl ?_
        refine ow_g (g_eq rfl rfl) rfl ?_
        refine ow_nil ?_
        refine tw_ifF rfl (by decide) ?_
        refine tw_skip ?_
        refine tw_seq ?_
        refine tw_region ?_
        refine ow_g (g_mv rfl) rfl ?_
        refine ow_g (g_cvu (by rw [Try.underlying3]; rfl) Try.underlying174 rfl (by omega)) rfl ?_
        refine ow_g (g_fold (j := 1) (g_shl rfl rfl (by decide)) (by decide)) rfl ?_
        refine ow_g (g_as rfl) rfl ?_
        refine ow_nil ?_
        refine tw_seq ?_
        refine tw_seq ?_
        refine tw_region ?_
        refine ow_g (g_mv rfl) rfl ?_
        refine ow_d (d_call (vs := [_]) rfl (rleft_any _ _ _ _ (by exact ⟨bs, at_, bw, by assumption, by assumption, hn, hal, rfl, hbl⟩))) rfl ?_
        rintro _ w4 ⟨rfl, k4⟩
        have z_k4 := k4.size
        replace hb := hb.keep0 k4
        replace hr := hr.keep0 k4
        replace hB := hB.trans k4.weak
        refine ow_g (g_mv rfl) rfl ?_
        refine ow_g (g_lt rfl rfl) rfl ?_
        refine ow_nil ?_
        refine tw_if rfl (fun hc3 => ?_) (fun hc3 => ?_)
        · -- yes
          refine tw_seq ?_
          refine tw_region ?_
          refine ow_g (g_mv rfl) rfl ?_
          refine ow_g (g_nilc rfl) rfl ?_
          refine ow_g (g_fa Try.underlying112 rfl ty3 (by decide) rfl) rfl ?_
          refine ow_d0 (d_st ty3 rfl rfl rfl hb rfl) ?_
          rintro _ w5 ⟨hb2, k5, z2⟩
          have z_k5 := k5.size
          replace hr := hr.keep k5 (fun x hx hm => Nat.ne_of_lt (hn x hx) (List.mem_singleton.1 hm))
          replace hB := hB.trans k5
          refine ow_nil ?_
          refine tw_seq ?_
          refine tw_region ?_
          refine ow_g (g_as rfl) rfl ?_
          refine ow_nil ?_
          refine tw_ret1 hfin Try.results88 rfl ?_
          refine ⟨(0, bs.drop at_, 20), at_, ?_, rfl, ⟨hb2, hr, hn, by omega, hbl⟩, rfl, hB⟩
          unfold rLen
          try rw [htop]
          try simp only [Nat.reducePow, Nat.reduceMul, Nat.reduceSub, Int.reducePow]
          repeat (first | rw [if_pos (by assumption)] | rw [if_neg (by assumption)] | rw [if_pos (by omega)] | rw [if_neg (by omega)])
          all_goals first | rfl | (refine Prod.ext rfl (Prod.ext rfl ?_); show _ = _; dsimp only; omega)
        · -- no
          refine tw_skip ?_
          refine tw_seq ?_
          refine tw_region ?_
          refine ow_g (g_mv rfl) rfl ?_
          refine ow_g (g_mv rfl) rfl ?_
          refine ow_d (d_call (vs := [_, _]) rfl (rnum_any _ (bs.drop at_) e _ _ (by exact ⟨bs, at_, bw, by assumption, by assumption, hn, hal, rfl, hbl⟩) (by omega) (by omega))) rfl ?_
          rintro _ w6 ⟨rfl, k6⟩
          have z_k6 := k6.size
          replace hb := hb.keep0 k6
          replace hr := hr.keep0 k6
          replace hB := hB.trans k6.weak
          refine ow_g (g_mv rfl) rfl ?_
          refine ow_g (g_fold (j := 8) (g_mulw rfl rfl) (by decide)) rfl ?_
          refine ow_g (g_fold (j := 6) (g_subw rfl rfl) (by decide)) rfl ?_
          refine ow_g (g_cvu (by rw [Try.underlying3]; rfl) Try.underlying174 rfl (by omega)) rfl ?_
          refine ow_g (g_fold (j := 64) (g_shl rfl rfl (by decide)) (by decide)) rfl ?_
          refine ow_g (g_fold (j := 63) (g_subw rfl rfl) (by decide)) rfl ?_
          refine ow_g (v := .int .i64 (num ((bs.drop at_).take 1) % 64)) (by have hm : bits .and .i64 (num ((bs.drop at_).take 1)) 63 = num ((bs.drop at_).take 1) % 64 := and_mask 6 (by decide) (hnb 1 (by decide)).1 (hnb 1 (by decide)).2; rw [← hm]; exact g_and rfl rfl) rfl ?_
          refine ow_g (g_as rfl) rfl ?_
          refine ow_nil ?_
          refine tw_seq ?_
          refine tw_seq ?_
          refine tw_region ?_
          refine ow_g (g_mv rfl) rfl ?_
          refine ow_g (g_eq rfl rfl) rfl ?_
          refine ow_g (g_mv rfl) rfl ?_
          refine ow_grp 56 true rfl (fun c1 hgc1 => ?_)
          refine ow_gg [(5, _)] (grd1 rfl rfl rfl hgc1) ⟨und0 rfl, trivial⟩ (fun hw1 => g_mv rfl) rfl ?_
          refine ow_gg [(57, _)] (grd1 rfl rfl rfl hgc1) ⟨und1 rfl, trivial⟩ (fun hw2 => g_lt rfl rfl) rfl ?_
          refine ow_g (g_pand rfl rfl hgc1) rfl ?_
          refine ow_g (g_mv rfl) rfl ?_
          refine ow_grp 60 false rfl (fun c2 hgc2 => ?_)
          refine ow_gg [(4, _)] (grd1 rfl rfl rfl hgc2) ⟨und0 rfl, trivial⟩ (fun hw3 => g_mv rfl) rfl ?_
          refine ow_gg [(61, _)] (grd1 rfl rfl rfl hgc2) ⟨und1 rfl, trivial⟩ (fun hw4 => g_eq rfl rfl) rfl ?_
          refine ow_gg [(62, _)] (grd1 rfl rfl rfl hgc2) ⟨und1 rfl, trivial⟩ (fun hw5 => g_mv rfl) rfl ?_
          refine ow_grp2 63 true rfl (fun c3 hgc3 => ?_)
          refine ow_gg [(5, _)] (grd2 rfl rfl rfl hgc3) ⟨und0 rfl, trivial⟩ (fun hw6 => g_mv rfl) rfl ?_
          refine ow_gg [(64, _)] (grd2 rfl rfl rfl hgc3) ⟨und1 rfl, trivial⟩ (fun hw7 => g_lt rfl rfl) rfl ?_
          refine ow_pand (grd1 rfl rfl rfl hgc2) (und1 rfl) rfl hgc3 rfl ?_
          refine ow_g (g_por rfl rfl hgc2) rfl ?_
          refine ow_nil ?_
          refine tw_cond rfl (fun hc4 => ?_) (fun hc4 => ?_)
          · -- yes
            have hd1 := hc4
            try (simp only [Bool.and_eq_true, Bool.or_eq_true, decide_eq_true_eq, Bool.and_eq_false_iff, Bool.or_eq_false_iff, decide_eq_false_iff_not, Bool.not_eq_true', Bool.not_eq_false', Bool.not_eq_true, Bool.not_eq_false, ne_eq, Decidable.not_not, decide_true, decide_false, Bool.true_and, Bool.false_and, Bool.or_false, Bool.false_or, not_true_eq_false, false_or, or_false, true_and, and_true, not_false_eq_true, reduceCtorEq] at hd1)
            refine tw_seq ?_
            refine tw_region ?_
            refine ow_g (g_mv rfl) rfl ?_
            refine ow_g (g_nilc rfl) rfl ?_
            refine ow_g (g_fa Try.underlying112 rfl ty3 (by decide) rfl) rfl ?_
            refine ow_d0 (d_st ty3 rfl rfl rfl hb rfl) ?_
            rintro _ w7 ⟨hb3, k7, z3⟩
            have z_k7 := k7.size
            replace hr := hr.keep k7 (fun x hx hm => Nat.ne_of_lt (hn x hx) (List.mem_singleton.1 hm))
            replace hB := hB.trans k7
            refine ow_nil ?_
            refine tw_seq ?_
            refine tw_region ?_
            refine ow_g (g_as rfl) rfl ?_
            refine ow_nil ?_
            refine tw_ret1 hfin Try.results88 rfl ?_
            refine ⟨(0, bs.drop at_, 21), at_, ?_, rfl, ⟨hb3, hr, hn, by omega, hbl⟩, rfl, hB⟩
            unfold rLen
            try rw [htop]
            try simp only [Nat.reducePow, Nat.reduceMul, Nat.reduceSub, Int.reducePow]
            repeat (first | rw [if_pos (by assumption)] | rw [if_neg (by assumption)] | rw [if_pos (by omega)] | rw [if_neg (by omega)])
            all_goals first | rfl | (refine Prod.ext rfl (Prod.ext rfl ?_); show _ = _; dsimp only; omega)
          · -- no
            have hd2 := hc4
            try (simp only [Bool.and_eq_true, Bool.or_eq_true, decide_eq_true_eq, Bool.and_eq_false_iff, Bool.or_eq_false_iff, decide_eq_false_iff_not, Bool.not_eq_true', Bool.not_eq_false', Bool.not_eq_true, Bool.not_eq_false, ne_eq, Decidable.not_not, decide_true, decide_false, Bool.true_and, Bool.false_and, Bool.or_false, Bool.false_or, not_true_eq_false, false_or, or_false, true_and, and_true, not_false_eq_true, reduceCtorEq] at hd2)
            refine tw_skip ?_
            refine tw_seq ?_
            refine tw_region ?_
            refine ow_g (g_mv rfl) rfl ?_
            refine ow_g (g_mv rfl) rfl ?_
            refine ow_g (g_nilc rfl) rfl ?_
            refine ow_g (g_fa Try.underlying112 rfl ty3 (by decide) rfl) rfl ?_
            refine ow_g (g_ldb sc3 rfl (by assumption) rfl) rfl ?_
            refine ow_g (g_mv rfl) rfl ?_
            refine ow_g (g_add rfl rfl (by omega)) rfl ?_
            refine ow_g (g_nilc rfl) rfl ?_
            refine ow_g (g_fa Try.underlying112 rfl ty3 (by decide) rfl) rfl ?_
            refine ow_d0 (d_st ty3 rfl rfl rfl hb rfl) ?_
            rintro _ w8 ⟨hb4, k8, z4⟩
            have z_k8 := k8.size
            replace hr := hr.keep k8 (fun x hx hm => Nat.ne_of_lt (hn x hx) (List.mem_singleton.1 hm))
            replace hB := hB.trans k8
            refine ow_nil ?_
            refine tw_seq ?_
            refine tw_region ?_
            refine ow_g (g_mv rfl) rfl ?_
            refine ow_g (g_as rfl) rfl ?_
            refine ow_nil ?_
            refine tw_ret1 hfin Try.results88 rfl ?_
            refine ⟨((num ((bs.drop at_).take 1) % 64), (bs.drop at_).drop 1, e), at_ + 1, ?_, rfl, ⟨hb4, hr, hn, by omega, hbl⟩, List.drop_drop, hB⟩
            unfold rLen
            try rw [htop]
            try simp only [Nat.reducePow, Nat.reduceMul, Nat.reduceSub, Int.reducePow]
            repeat (first | rw [if_pos (by assumption)] | rw [if_neg (by assumption)] | rw [if_pos (by omega)] | rw [if_neg (by omega)])
            all_goals first | rfl | (refine Prod.ext rfl (Prod.ext rfl ?_); show _ = _; dsimp only; omega)
      · have htop : top (bs.drop at_) = 1 := by unfold top; omega
        rw [hq]
        refine tw_region ?_
        refine ow_g (g_mv rfl) rfl ?_
        refine ow_g (g_eq rfl rfl) rfl ?_
        refine ow_nil ?_
        refine tw_ifF rfl (by decide) ?_
        refine tw_skip ?_
        refine tw_seq ?_
        refine tw_region ?_
        refine ow_g (g_mv rfl) rfl ?_
        refine ow_g (g_cvu (by rw [Try.underlying3]; rfl) Try.underlying174 rfl (by omega)) rfl ?_
        refine ow_g (g_fold (j := 2) (g_shl rfl rfl (by decide)) (by decide)) rfl ?_
        refine ow_g (g_as rfl) rfl ?_
        refine ow_nil ?_
        refine tw_seq ?_
        refine tw_seq ?_
        refine tw_region ?_
        refine ow_g (g_mv rfl) rfl ?_
        refine ow_d (d_call (vs := [_]) rfl (rleft_any _ _ _ _ (by exact ⟨bs, at_, bw, by assumption, by assumption, hn, hal, rfl, hbl⟩))) rfl ?_
        rintro _ w9 ⟨rfl, k9⟩
        have z_k9 := k9.size
        replace hb := hb.keep0 k9
        replace hr := hr.keep0 k9
        replace hB := hB.trans k9.weak
        refine ow_g (g_mv rfl) rfl ?_
        refine ow_g (g_lt rfl rfl) rfl ?_
        refine ow_nil ?_
        refine tw_if rfl (fun hc5 => ?_) (fun hc5 => ?_)
        · -- yes
          refine tw_seq ?_
          refine tw_region ?_
          refine ow_g (g_mv rfl) rfl ?_
          refine ow_g (g_nilc rfl) rfl ?_
          refine ow_g (g_fa Try.underlying112 rfl ty3 (by decide) rfl) rfl ?_
          refine ow_d0 (d_st ty3 rfl rfl rfl hb rfl) ?_
          rintro _ w10 ⟨hb5, k10, z5⟩
          have z_k10 := k10.size
          replace hr := hr.keep k10 (fun x hx hm => Nat.ne_of_lt (hn x hx) (List.mem_singleton.1 hm))
          replace hB := hB.trans k10
          refine ow_nil ?_
          refine tw_seq ?_
          refine tw_region ?_
          refine ow_g (g_as rfl) rfl ?_
          refine ow_nil ?_
          refine tw_ret1 hfin Try.results88 rfl ?_
          refine ⟨(0, bs.drop at_, 20), at_, ?_, rfl, ⟨hb5, hr, hn, by omega, hbl⟩, rfl, hB⟩
          unfold rLen
          try rw [htop]
          try simp only [Nat.reducePow, Nat.reduceMul, Nat.reduceSub, Int.reducePow]
          repeat (first | rw [if_pos (by assumption)] | rw [if_neg (by assumption)] | rw [if_pos (by omega)] | rw [if_neg (by omega)])
          all_goals first | rfl | (refine Prod.ext rfl (Prod.ext rfl ?_); show _ = _; dsimp only; omega)
        · -- no
          refine tw_skip ?_
          refine tw_seq ?_
          refine tw_region ?_
          refine ow_g (g_mv rfl) rfl ?_
          refine ow_g (g_mv rfl) rfl ?_
          refine ow_d (d_call (vs := [_, _]) rfl (rnum_any _ (bs.drop at_) e _ _ (by exact ⟨bs, at_, bw, by assumption, by assumption, hn, hal, rfl, hbl⟩) (by omega) (by omega))) rfl ?_
          rintro _ w11 ⟨rfl, k11⟩
          have z_k11 := k11.size
          replace hb := hb.keep0 k11
          replace hr := hr.keep0 k11
          replace hB := hB.trans k11.weak
          refine ow_g (g_mv rfl) rfl ?_
          refine ow_g (g_fold (j := 16) (g_mulw rfl rfl) (by decide)) rfl ?_
          refine ow_g (g_fold (j := 14) (g_subw rfl rfl) (by decide)) rfl ?_
          refine ow_g (g_cvu (by rw [Try.underlying3]; rfl) Try.underlying174 rfl (by omega)) rfl ?_
          refine ow_g (g_fold (j := 16384) (g_shl rfl rfl (by decide)) (by decide)) rfl ?_
          refine ow_g (g_fold (j := 16383) (g_subw rfl rfl) (by decide)) rfl ?_
          refine ow_g (v := .int .i64 (num ((bs.drop at_).take 2) % 16384)) (by have hm : bits .and .i64 (num ((bs.drop at_).take 2)) 16383 = num ((bs.drop at_).take 2) % 16384 := and_mask 14 (by decide) (hnb 2 (by decide)).1 (hnb 2 (by decide)).2; rw [← hm]; exact g_and rfl rfl) rfl ?_
          refine ow_g (g_as rfl) rfl ?_
          refine ow_nil ?_
          refine tw_seq ?_
          refine tw_seq ?_
          refine tw_region ?_
          refine ow_g (g_mv rfl) rfl ?_
          refine ow_g (g_eq rfl rfl) rfl ?_
          refine ow_g (g_mv rfl) rfl ?_
          refine ow_grp 56 true rfl (fun c4 hgc4 => ?_)
          refine ow_gg [(5, _)] (grd1 rfl rfl rfl hgc4) ⟨und0 rfl, trivial⟩ (fun hw8 => g_mv rfl) rfl ?_
          refine ow_gg [(57, _)] (grd1 rfl rfl rfl hgc4) ⟨und1 rfl, trivial⟩ (fun hw9 => g_lt rfl rfl) rfl ?_
          refine ow_g (g_pand rfl rfl hgc4) rfl ?_
          refine ow_g (g_mv rfl) rfl ?_
          refine ow_grp 60 false rfl (fun c5 hgc5 => ?_)
          refine ow_gg [(4, _)] (grd1 rfl rfl rfl hgc5) ⟨und0 rfl, trivial⟩ (fun hw10 => g_mv rfl) rfl ?_
          refine ow_gg [(61, _)] (grd1 rfl rfl rfl hgc5) ⟨und1 rfl, trivial⟩ (fun hw11 => g_eq rfl rfl) rfl ?_
          refine ow_gg [(62, _)] (grd1 rfl rfl rfl hgc5) ⟨und1 rfl, trivial⟩ (fun hw12 => g_mv rfl) rfl ?_
          refine ow_grp2 63 true rfl (fun c6 hgc6 => ?_)
          refine ow_gg [(5, _)] (grd2 rfl rfl rfl hgc6) ⟨und0 rfl, trivial⟩ (fun hw13 => g_mv rfl) rfl ?_
          refine ow_gg [(64, _)] (grd2 rfl rfl rfl hgc6) ⟨und1 rfl, trivial⟩ (fun hw14 => g_lt rfl rfl) rfl ?_
          refine ow_pand (grd1 rfl rfl rfl hgc5) (und1 rfl) rfl hgc6 rfl ?_
          refine ow_g (g_por rfl rfl hgc5) rfl ?_
          refine ow_nil ?_
          refine tw_cond rfl (fun hc6 => ?_) (fun hc6 => ?_)
          · -- yes
            have hd3 := hc6
            try (simp only [Bool.and_eq_true, Bool.or_eq_true, decide_eq_true_eq, Bool.and_eq_false_iff, Bool.or_eq_false_iff, decide_eq_false_iff_not, Bool.not_eq_true', Bool.not_eq_false', Bool.not_eq_true, Bool.not_eq_false, ne_eq, Decidable.not_not, decide_true, decide_false, Bool.true_and, Bool.false_and, Bool.or_false, Bool.false_or, not_true_eq_false, false_or, or_false, true_and, and_true, not_false_eq_true, reduceCtorEq] at hd3)
            refine tw_seq ?_
            refine tw_region ?_
            refine ow_g (g_mv rfl) rfl ?_
            refine ow_g (g_nilc rfl) rfl ?_
            refine ow_g (g_fa Try.underlying112 rfl ty3 (by decide) rfl) rfl ?_
            refine ow_d0 (d_st ty3 rfl rfl rfl hb rfl) ?_
            rintro _ w12 ⟨hb6, k12, z6⟩
            have z_k12 := k12.size
            replace hr := hr.keep k12 (fun x hx hm => Nat.ne_of_lt (hn x hx) (List.mem_singleton.1 hm))
            replace hB := hB.trans k12
            refine ow_nil ?_
            refine tw_seq ?_
            refine tw_region ?_
            refine ow_g (g_as rfl) rfl ?_
            refine ow_nil ?_
            refine tw_ret1 hfin Try.results88 rfl ?_
            refine ⟨(0, bs.drop at_, 21), at_, ?_, rfl, ⟨hb6, hr, hn, by omega, hbl⟩, rfl, hB⟩
            unfold rLen
            try rw [htop]
            try simp only [Nat.reducePow, Nat.reduceMul, Nat.reduceSub, Int.reducePow]
            repeat (first | rw [if_pos (by assumption)] | rw [if_neg (by assumption)] | rw [if_pos (by omega)] | rw [if_neg (by omega)])
            all_goals first | rfl | (refine Prod.ext rfl (Prod.ext rfl ?_); show _ = _; dsimp only; omega)
          · -- no
            have hd4 := hc6
            try (simp only [Bool.and_eq_true, Bool.or_eq_true, decide_eq_true_eq, Bool.and_eq_false_iff, Bool.or_eq_false_iff, decide_eq_false_iff_not, Bool.not_eq_true', Bool.not_eq_false', Bool.not_eq_true, Bool.not_eq_false, ne_eq, Decidable.not_not, decide_true, decide_false, Bool.true_and, Bool.false_and, Bool.or_false, Bool.false_or, not_true_eq_false, false_or, or_false, true_and, and_true, not_false_eq_true, reduceCtorEq] at hd4)
            refine tw_skip ?_
            refine tw_seq ?_
            refine tw_region ?_
            refine ow_g (g_mv rfl) rfl ?_
            refine ow_g (g_mv rfl) rfl ?_
            refine ow_g (g_nilc rfl) rfl ?_
            refine ow_g (g_fa Try.underlying112 rfl ty3 (by decide) rfl) rfl ?_
            refine ow_g (g_ldb sc3 rfl (by assumption) rfl) rfl ?_
            refine ow_g (g_mv rfl) rfl ?_
            refine ow_g (g_add rfl rfl (by omega)) rfl ?_
            refine ow_g (g_nilc rfl) rfl ?_
            refine ow_g (g_fa Try.underlying112 rfl ty3 (by decide) rfl) rfl ?_
            refine ow_d0 (d_st ty3 rfl rfl rfl hb rfl) ?_
            rintro _ w13 ⟨hb7, k13, z7⟩
            have z_k13 := k13.size
            replace hr := hr.keep k13 (fun x hx hm => Nat.ne_of_lt (hn x hx) (List.mem_singleton.1 hm))
            replace hB := hB.trans k13
            refine ow_nil ?_
            refine tw_seq ?_
            refine tw_region ?_
            refine ow_g (g_mv rfl) rfl ?_
            refine ow_g (g_as rfl) rfl ?_
            refine ow_nil ?_
            refine tw_ret1 hfin Try.results88 rfl ?_
            refine ⟨((num ((bs.drop at_).take 2) % 16384), (bs.drop at_).drop 2, e), at_ + 2, ?_, rfl, ⟨hb7, hr, hn, by omega, hbl⟩, List.drop_drop, hB⟩
            unfold rLen
            try rw [htop]
            try simp only [Nat.reducePow, Nat.reduceMul, Nat.reduceSub, Int.reducePow]
            repeat (first | rw [if_pos (by assumption)] | rw [if_neg (by assumption)] | rw [if_pos (by omega)] | rw [if_neg (by omega)])
            all_goals first | rfl | (refine Prod.ext rfl (Prod.ext rfl ?_); show _ = _; dsimp only; omega)
      · have htop : top (bs.drop at_) = 2 := by unfold top; omega
        rw [hq]
        refine tw_region ?_
        refine ow_g (g_mv rfl) rfl ?_
        refine ow_g (g_eq rfl rfl) rfl ?_
        refine ow_nil ?_
        refine tw_ifF rfl (by decide) ?_
        refine tw_skip ?_
        refine tw_seq ?_
        refine tw_region ?_
        refine ow_g (g_mv rfl) rfl ?_
        refine ow_g (g_cvu (by rw [Try.underlying3]; rfl) Try.underlying174 rfl (by omega)) rfl ?_
        refine ow_g (g_fold (j := 4) (g_shl rfl rfl (by decide)) (by decide)) rfl ?_
        refine ow_g (g_as rfl) rfl ?_
        refine ow_nil ?_
        refine tw_seq ?_
        refine tw_seq ?_
        refine tw_region ?_
        refine ow_g (g_mv rfl) rfl ?_
        refine ow_d (d_call (vs := [_]) rfl (rleft_any _ _ _ _ (by exact ⟨bs, at_, bw, by assumption, by assumption, hn, hal, rfl, hbl⟩))) rfl ?_
        rintro _ w14 ⟨rfl, k14⟩
        have z_k14 := k14.size
        replace hb := hb.keep0 k14
        replace hr := hr.keep0 k14
        replace hB := hB.trans k14.weak
        refine ow_g (g_mv rfl) rfl ?_
        refine ow_g (g_lt rfl rfl) rfl ?_
        refine ow_nil ?_
        refine tw_if rfl (fun hc7 => ?_) (fun hc7 => ?_)
        · -- yes
          refine tw_seq ?_
          refine tw_region ?_
          refine ow_g (g_mv rfl) rfl ?_
          refine ow_g (g_nilc rfl) rfl ?_
          refine ow_g (g_fa Try.underlying112 rfl ty3 (by decide) rfl) rfl ?_
          refine ow_d0 (d_st ty3 rfl rfl rfl hb rfl) ?_
          rintro _ w15 ⟨hb8, k15, z8⟩
          have z_k15 := k15.size
          replace hr := hr.keep k15 (fun x hx hm => Nat.ne_of_lt (hn x hx) (List.mem_singleton.1 hm))
          replace hB := hB.trans k15
          refine ow_nil ?_
          refine tw_seq ?_
          refine tw_region ?_
          refine ow_g (g_as rfl) rfl ?_
          refine ow_nil ?_
          refine tw_ret1 hfin Try.results88 rfl ?_
          refine ⟨(0, bs.drop at_, 20), at_, ?_, rfl, ⟨hb8, hr, hn, by omega, hbl⟩, rfl, hB⟩
          unfold rLen
          try rw [htop]
          try simp only [Nat.reducePow, Nat.reduceMul, Nat.reduceSub, Int.reducePow]
          repeat (first | rw [if_pos (by assumption)] | rw [if_neg (by assumption)] | rw [if_pos (by omega)] | rw [if_neg (by omega)])
          all_goals first | rfl | (refine Prod.ext rfl (Prod.ext rfl ?_); show _ = _; dsimp only; omega)
        · -- no
          refine tw_skip ?_
          refine tw_seq ?_
          refine tw_region ?_
          refine ow_g (g_mv rfl) rfl ?_
          refine ow_g (g_mv rfl) rfl ?_
          refine ow_d (d_call (vs := [_, _]) rfl (rnum_any _ (bs.drop at_) e _ _ (by exact ⟨bs, at_, bw, by assumption, by assumption, hn, hal, rfl, hbl⟩) (by omega) (by omega))) rfl ?_
          rintro _ w16 ⟨rfl, k16⟩
          have z_k16 := k16.size
          replace hb := hb.keep0 k16
          replace hr := hr.keep0 k16
          replace hB := hB.trans k16.weak
          refine ow_g (g_mv rfl) rfl ?_
          refine ow_g (g_fold (j := 32) (g_mulw rfl rfl) (by decide)) rfl ?_
          refine ow_g (g_fold (j := 30) (g_subw rfl rfl) (by decide)) rfl ?_
          refine ow_g (g_cvu (by rw [Try.underlying3]; rfl) Try.underlying174 rfl (by omega)) rfl ?_
          refine ow_g (g_fold (j := 1073741824) (g_shl rfl rfl (by decide)) (by decide)) rfl ?_
          refine ow_g (g_fold (j := 1073741823) (g_subw rfl rfl) (by decide)) rfl ?_
          refine ow_g (v := .int .i64 (num ((bs.drop at_).take 4) % 1073741824)) (by have hm : bits .and .i64 (num ((bs.drop at_).take 4)) 1073741823 = num ((bs.drop at_).take 4) % 1073741824 := and_mask 30 (by decide) (hnb 4 (by decide)).1 (hnb 4 (by decide)).2; rw [← hm]; exact g_and rfl rfl) rfl ?_
          refine ow_g (g_as rfl) rfl ?_
          refine ow_nil ?_
          refine tw_seq ?_
          refine tw_seq ?_
          refine tw_region ?_
          refine ow_g (g_mv rfl) rfl ?_
          refine ow_g (g_eq rfl rfl) rfl ?_
          refine ow_g (g_mv rfl) rfl ?_
          refine ow_grp 56 true rfl (fun c7 hgc7 => ?_)
          refine ow_gg [(5, _)] (grd1 rfl rfl rfl hgc7) ⟨und0 rfl, trivial⟩ (fun hw15 => g_mv rfl) rfl ?_
          refine ow_gg [(57, _)] (grd1 rfl rfl rfl hgc7) ⟨und1 rfl, trivial⟩ (fun hw16 => g_lt rfl rfl) rfl ?_
          refine ow_g (g_pand rfl rfl hgc7) rfl ?_
          refine ow_g (g_mv rfl) rfl ?_
          refine ow_grp 60 false rfl (fun c8 hgc8 => ?_)
          refine ow_gg [(4, _)] (grd1 rfl rfl rfl hgc8) ⟨und0 rfl, trivial⟩ (fun hw17 => g_mv rfl) rfl ?_
          refine ow_gg [(61, _)] (grd1 rfl rfl rfl hgc8) ⟨und1 rfl, trivial⟩ (fun hw18 => g_eq rfl rfl) rfl ?_
          refine ow_gg [(62, _)] (grd1 rfl rfl rfl hgc8) ⟨und1 rfl, trivial⟩ (fun hw19 => g_mv rfl) rfl ?_
          refine ow_grp2 63 true rfl (fun c9 hgc9 => ?_)
          refine ow_gg [(5, _)] (grd2 rfl rfl rfl hgc9) ⟨und0 rfl, trivial⟩ (fun hw20 => g_mv rfl) rfl ?_
          refine ow_gg [(64, _)] (grd2 rfl rfl rfl hgc9) ⟨und1 rfl, trivial⟩ (fun hw21 => g_lt rfl rfl) rfl ?_
          refine ow_pand (grd1 rfl rfl rfl hgc8) (und1 rfl) rfl hgc9 rfl ?_
          refine ow_g (g_por rfl rfl hgc8) rfl ?_
          refine ow_nil ?_
          refine tw_cond rfl (fun hc8 => ?_) (fun hc8 => ?_)
          · -- yes
            have hd5 := hc8
            try (simp only [Bool.and_eq_true, Bool.or_eq_true, decide_eq_true_eq, Bool.and_eq_false_iff, Bool.or_eq_false_iff, decide_eq_false_iff_not, Bool.not_eq_true', Bool.not_eq_false', Bool.not_eq_true, Bool.not_eq_false, ne_eq, Decidable.not_not, decide_true, decide_false, Bool.true_and, Bool.false_and, Bool.or_false, Bool.false_or, not_true_eq_false, false_or, or_false, true_and, and_true, not_false_eq_true, reduceCtorEq] at hd5)
            refine tw_seq ?_
            refine tw_region ?_
            refine ow_g (g_mv rfl) rfl ?_
            refine ow_g (g_nilc rfl) rfl ?_
            refine ow_g (g_fa Try.underlying112 rfl ty3 (by decide) rfl) rfl ?_
            refine ow_d0 (d_st ty3 rfl rfl rfl hb rfl) ?_
            rintro _ w17 ⟨hb9, k17, z9⟩
            have z_k17 := k17.size
            replace hr := hr.keep k17 (fun x hx hm => Nat.ne_of_lt (hn x hx) (List.mem_singleton.1 hm))
            replace hB := hB.trans k17
            refine ow_nil ?_
            refine tw_seq ?_
            refine tw_region ?_
            refine ow_g (g_as rfl) rfl ?_
            refine ow_nil ?_
            refine tw_ret1 hfin Try.results88 rfl ?_
            refine ⟨(0, bs.drop at_, 21), at_, ?_, rfl, ⟨hb9, hr, hn, by omega, hbl⟩, rfl, hB⟩
            unfold rLen
            try rw [htop]
            try simp only [Nat.reducePow, Nat.reduceMul, Nat.reduceSub, Int.reducePow]
            repeat (first | rw [if_pos (by assumption)] | rw [if_neg (by assumption)] | rw [if_pos (by omega)] | rw [if_neg (by omega)])
            all_goals first | rfl | (refine Prod.ext rfl (Prod.ext rfl ?_); show _ = _; dsimp only; omega)
          · -- no
            have hd6 := hc8
            try (simp only [Bool.and_eq_true, Bool.or_eq_true, decide_eq_true_eq, Bool.and_eq_false_iff, Bool.or_eq_false_iff, decide_eq_false_iff_not, Bool.not_eq_true', Bool.not_eq_false', Bool.not_eq_true, Bool.not_eq_false, ne_eq, Decidable.not_not, decide_true, decide_false, Bool.true_and, Bool.false_and, Bool.or_false, Bool.false_or, not_true_eq_false, false_or, or_false, true_and, and_true, not_false_eq_true, reduceCtorEq] at hd6)
            refine tw_skip ?_
            refine tw_seq ?_
            refine tw_region ?_
            refine ow_g (g_mv rfl) rfl ?_
            refine ow_g (g_mv rfl) rfl ?_
            refine ow_g (g_nilc rfl) rfl ?_
            refine ow_g (g_fa Try.underlying112 rfl ty3 (by decide) rfl) rfl ?_
            refine ow_g (g_ldb sc3 rfl (by assumption) rfl) rfl ?_
            refine ow_g (g_mv rfl) rfl ?_
            refine ow_g (g_add rfl rfl (by omega)) rfl ?_
            refine ow_g (g_nilc rfl) rfl ?_
            refine ow_g (g_fa Try.underlying112 rfl ty3 (by decide) rfl) rfl ?_
            refine ow_d0 (d_st ty3 rfl rfl rfl hb rfl) ?_
            rintro _ w18 ⟨hb10, k18, z10⟩
            have z_k18 := k18.size
            replace hr := hr.keep k18 (fun x hx hm => Nat.ne_of_lt (hn x hx) (List.mem_singleton.1 hm))
            replace hB := hB.trans k18
            refine ow_nil ?_
            refine tw_seq ?_
            refine tw_region ?_
            refine ow_g (g_mv rfl) rfl ?_
            refine ow_g (g_as rfl) rfl ?_
            refine ow_nil ?_
            refine tw_ret1 hfin Try.results88 rfl ?_
            refine ⟨((num ((bs.drop at_).take 4) % 1073741824), (bs.drop at_).drop 4, e), at_ + 4, ?_, rfl, ⟨hb10, hr, hn, by omega, hbl⟩, List.drop_drop, hB⟩
            unfold rLen
            try rw [htop]
            try simp only [Nat.reducePow, Nat.reduceMul, Nat.reduceSub, Int.reducePow]
            repeat (first | rw [if_pos (by assumption)] | rw [if_neg (by assumption)] | rw [if_pos (by omega)] | rw [if_neg (by omega)])
            all_goals first | rfl | (refine Prod.ext rfl (Prod.ext rfl ?_); show _ = _; dsimp only; omega)
      · have htop : top (bs.drop at_) = 3 := by unfold top; omega
        rw [hq]
        refine tw_region ?_
        refine ow_g (g_mv rfl) rfl ?_
        refine ow_g (g_eq rfl rfl) rfl ?_
        refine ow_nil ?_
        refine tw_ifT rfl (by decide) ?_
        refine tw_seq ?_
        refine tw_region ?_
        refine ow_g (g_mv rfl) rfl ?_
        refine ow_g (g_nilc rfl) rfl ?_
        refine ow_g (g_fa Try.underlying112 rfl ty3 (by decide) rfl) rfl ?_
        refine ow_d0 (d_st ty3 rfl rfl rfl hb rfl) ?_
        rintro _ w19 ⟨hb11, k19, z11⟩
        have z_k19 := k19.size
        replace hr := hr.keep k19 (fun x hx hm => Nat.ne_of_lt (hn x hx) (List.mem_singleton.1 hm))
        replace hB := hB.trans k19
        refine ow_nil ?_
        refine tw_seq ?_
        refine tw_region ?_
        refine ow_g (g_as rfl) rfl ?_
        refine ow_nil ?_
        refine tw_ret1 hfin Try.results88 rfl ?_
        refine ⟨(0, bs.drop at_, 21), at_, ?_, rfl, ⟨hb11, hr, hn, by omega, hbl⟩, rfl, hB⟩
        unfold rLen
        try rw [htop]
        try simp only [Nat.reducePow, Nat.reduceMul, Nat.reduceSub, Int.reducePow]
        repeat (first | rw [if_pos (by assumption)] | rw [if_neg (by assumption)] | rw [if_pos (by omega)] | rw [if_neg (by omega)])
        all_goals first | rfl | (refine Prod.ext rfl (Prod.ext rfl ?_); show _ = _; dsimp only; omega)
set_option maxRecDepth 100000 in
theorem rrend_any (p : Nat) (rest : List UInt8) (e : Int) (w : World) (h : RdR w p rest e) : Rets Try.prog 49 [.pointer (some ⟨p, 0, none⟩)] w (fun v w' => v = .int .i64 (rEnd rest e) ∧ Keep [] w w') := by
 obtain ⟨bs, at_, bw, hb, hr, hn, hal, rfl, hbl⟩ := h
 have hB : Keep [] w w := Keep.refl _ _
 have hcap := hr.vcap
 have hdl : (bs.drop at_).length = bs.length - at_ := List.length_drop
 refine rets_of_tw Try.func49 rfl (by decide) Try.ntmps49 rfl (fun fin _ hfin => ?_)
 refine tw_seq (tw_region (ow_g (g_as rfl) rfl (ow_nil (tw_seq (tw_seq (tw_region ?_))))))
 refine ow_g (g_mv rfl) rfl (ow_g (g_nilc rfl) rfl ?_)
 refine ow_g (g_fa Try.underlying112 rfl ty3 (by decide) rfl) rfl ?_
 refine ow_g (g_ldb sc3 rfl ‹_› rfl) rfl ?_
 refine ow_g (g_eq rfl rfl) rfl ?_
 refine ow_g (g_mv rfl) rfl (ow_grp 8 true rfl (fun c1 hgc1 => ?_))
 refine ow_gg [(0, _)] (grd1 rfl rfl rfl hgc1) ⟨und0 rfl, trivial⟩ (fun hw1 => g_mv rfl) rfl ?_
 refine ow_gdk [(9, _)] (grd1 rfl rfl rfl hgc1) ⟨und1 rfl, trivial⟩ (fun hw2 => d_call (vs := [_]) rfl (rleft_any _ _ _ _ (by exact ⟨bs, at_, bw, by assumption, by assumption, hn, hal, rfl, hbl⟩))) rfl ?_
 rintro w2 k2
 have z_k2 := k2.size
 replace hb := hb.keep0 k2
 replace hr := hr.keep0 k2
 replace hB := hB.trans k2
 refine ow_gg [(10, _)] (grd1 rfl rfl rfl hgc1) ⟨und1 rfl, trivial⟩ (fun hw3 => g_gt rfl rfl) rfl ?_
 refine ow_g (g_pand rfl rfl hgc1) rfl ?_
 refine ow_nil (tw_cond rfl (fun hc1 => ?_) (fun hc1 => ?_))
 ·
  have hd1 := hc1
  try (simp only [Bool.and_eq_true, Bool.or_eq_true, decide_eq_true_eq, Bool.and_eq_false_iff, Bool.or_eq_false_iff, decide_eq_false_iff_not, Bool.not_eq_true', Bool.not_eq_false', Bool.not_eq_true, Bool.not_eq_false, ne_eq, Decidable.not_not, decide_true, decide_false, Bool.true_and, Bool.false_and, Bool.or_false, Bool.false_or, not_true_eq_false, false_or, or_false, true_and, and_true, not_false_eq_true, reduceCtorEq] at hd1)
  refine tw_seq (tw_region (ow_g (g_as rfl) rfl (ow_nil (tw_ret1 hfin Try.results49 rfl ?_))))
  refine ⟨?_, hB⟩
  congr 1
  unfold rEnd
  repeat (first | rw [if_pos ‹_›] | rw [if_neg ‹_›] | rw [if_pos (by omega)] | rw [if_neg (by omega)])
  all_goals omega
 ·
  have hd2 := hc1
  try (simp only [Bool.and_eq_true, Bool.or_eq_true, decide_eq_true_eq, Bool.and_eq_false_iff, Bool.or_eq_false_iff, decide_eq_false_iff_not, Bool.not_eq_true', Bool.not_eq_false', Bool.not_eq_true, Bool.not_eq_false, ne_eq, Decidable.not_not, decide_true, decide_false, Bool.true_and, Bool.false_and, Bool.or_false, Bool.false_or, not_true_eq_false, false_or, or_false, true_and, and_true, not_false_eq_true, reduceCtorEq] at hd2)
  refine tw_skip (tw_seq (tw_region (ow_g (g_mv rfl) rfl (ow_g (g_nilc rfl) rfl ?_))))
  refine ow_g (g_fa Try.underlying112 rfl ty3 (by decide) rfl) rfl ?_
  refine ow_g (g_ldb sc3 rfl ‹_› rfl) rfl ?_
  refine ow_g (g_as rfl) rfl (ow_nil (tw_ret1 hfin Try.results49 rfl ?_))
  refine ⟨?_, hB⟩
  congr 1
  unfold rEnd
  repeat (first | rw [if_pos ‹_›] | rw [if_neg ‹_›] | rw [if_pos (by omega)] | rw [if_neg (by omega)])
  all_goals omega
set_option maxRecDepth 100000 in
theorem rrtake_any (p at_ : Nat) (bs : List UInt8) (bw : Value) (e n : Int) (w : World) (h : RdA w p bs bw at_ e) : Rets Try.prog 89 [.pointer (some ⟨p, 0, none⟩), .int .i64 n] w (fun v w' => ∃ r a2, r = rTake (bs.drop at_) e n ∧ OwnB w' w.heap.size v r.1 ∧ RdA w' p bs bw a2 r.2.2 ∧ r.2.1 = bs.drop a2 ∧ Keep [p] w w') := by
  obtain ⟨hb, hr, hn, hal, hbl⟩ := h
  have hB : Keep [p] w w := Keep.refl _ _
  have hcap := hr.vcap
  have hdl : (bs.drop at_).length = bs.length - at_ := List.length_drop
  have hg0 : gb bs (at_ : Int) = (((bs.drop at_).getD 0 0).toNat : Int) := by unfold gb; rw [List.getD_eq_getElem?_getD, List.getD_eq_getElem?_getD, List.getElem?_drop, Int.toNat_natCast, Nat.add_zero]
  have hp0 := hb.lt
  refine rets_of_tw Try.func89 rfl (by decide) Try.ntmps89 rfl (fun fin _ hfin => ?_)
  refine tw_seq ?_
  refine tw_region ?_
  refine ow_g (g_as rfl) rfl ?_
  refine ow_nil ?_
  refine tw_seq ?_
  refine tw_block ?_
  refine tw_seq ?_
  refine tw_region ?_
  refine ow_g (g_mv rfl) rfl ?_
  refine ow_g (g_nilc rfl) rfl ?_
  refine ow_g (g_fa Try.underlying112 rfl ty3 (by decide) rfl) rfl ?_
  refine ow_g (g_ldb sc3 rfl (by assumption) rfl) rfl ?_
  refine ow_g (g_ne rfl rfl) rfl ?_
  refine ow_g (g_as rfl) rfl ?_
  refine ow_nil ?_
  refine tw_if rfl (fun hc1 => ?_) (fun hc1 => ?_)
  · -- yes
    refine tw_seq ?_
    refine tw_region ?_
    refine ow_g (g_as rfl) rfl ?_
    refine ow_nil ?_
    refine tw_ret1 hfin Try.results89 rfl ?_
    refine ⟨([], bs.drop at_, e), at_, ?_, own_nil _ _ _ _, ⟨hb, hr, hn, by omega, hbl⟩, rfl, hB⟩
    unfold rTake
    repeat (first | rw [if_pos (by assumption)] | rw [if_neg (by assumption)] | rw [if_pos (by omega)] | rw [if_neg (by omega)])
    all_goals first | rfl | (refine Prod.ext rfl (Prod.ext rfl ?_); show _ = _; dsimp only; omega)
  · -- no
    refine tw_seq ?_
    refine tw_region ?_
    refine ow_g (g_mv rfl) rfl ?_
    refine ow_g (g_lt rfl rfl) rfl ?_
    refine ow_g (g_as rfl) rfl ?_
    refine ow_nil ?_
    refine tw_if rfl (fun hc2 => ?_) (fun hc2 => ?_)
    · -- yes
      refine tw_seq ?_
      refine tw_region ?_
      refine ow_g (g_mv rfl) rfl ?_
      refine ow_g (g_nilc rfl) rfl ?_
      refine ow_g (g_fa Try.underlying112 rfl ty3 (by decide) rfl) rfl ?_
      refine ow_d0 (d_st ty3 rfl rfl rfl hb rfl) ?_
      rintro _ w1 ⟨hb1, k1, z1⟩
      have z_k1 := k1.size
      replace hr := hr.keep k1 (fun x hx hm => Nat.ne_of_lt (hn x hx) (List.mem_singleton.1 hm))
      replace hB := hB.trans k1
      refine ow_nil ?_
      refine tw_seq ?_
      refine tw_region ?_
      refine ow_g (g_as rfl) rfl ?_
      refine ow_nil ?_
      refine tw_ret1 hfin Try.results89 rfl ?_
      refine ⟨([], bs.drop at_, 1), at_, ?_, own_nil _ _ _ _, ⟨hb1, hr, hn, by omega, hbl⟩, rfl, hB⟩
      unfold rTake
      repeat (first | rw [if_pos (by assumption)] | rw [if_neg (by assumption)] | rw [if_pos (by omega)] | rw [if_neg (by omega)])
      all_goals first | rfl | (refine Prod.ext rfl (Prod.ext rfl ?_); show _ = _; dsimp only; omega)
    · -- no
      refine tw_seq ?_
      refine tw_region ?_
      refine ow_g (g_mv rfl) rfl ?_
      refine ow_g (g_mv rfl) rfl ?_
      refine ow_d (d_call (vs := [_]) rfl (rleft_any _ _ _ _ (by exact ⟨bs, at_, bw, by assumption, by assumption, hn, hal, rfl, hbl⟩))) rfl ?_
      rintro _ w2 ⟨rfl, k2⟩
      have z_k2 := k2.size
      replace hb := hb.keep0 k2
      replace hr := hr.keep0 k2
      replace hB := hB.trans k2.weak
      refine ow_g (g_gt rfl rfl) rfl ?_
      refine ow_g (g_as rfl) rfl ?_
      refine ow_nil ?_
      refine tw_if rfl (fun hc3 => ?_) (fun hc3 => ?_)
      · -- yes
        refine tw_seq ?_
        refine tw_region ?_
        refine ow_g (g_mv rfl) rfl ?_
        refine ow_g (g_nilc rfl) rfl ?_
        refine ow_g (g_fa Try.underlying112 rfl ty3 (by decide) rfl) rfl ?_
        refine ow_d0 (d_st ty3 rfl rfl rfl hb rfl) ?_
        rintro _ w3 ⟨hb2, k3, z2⟩
        have z_k3 := k3.size
        replace hr := hr.keep k3 (fun x hx hm => Nat.ne_of_lt (hn x hx) (List.mem_singleton.1 hm))
        replace hB := hB.trans k3
        refine ow_nil ?_
        refine tw_seq ?_
        refine tw_region ?_
        refine ow_g (g_as rfl) rfl ?_
        refine ow_nil ?_
        refine tw_ret1 hfin Try.results89 rfl ?_
        refine ⟨([], bs.drop at_, 20), at_, ?_, own_nil _ _ _ _, ⟨hb2, hr, hn, by omega, hbl⟩, rfl, hB⟩
        unfold rTake
        repeat (first | rw [if_pos (by assumption)] | rw [if_neg (by assumption)] | rw [if_pos (by omega)] | rw [if_neg (by omega)])
        all_goals first | rfl | (refine Prod.ext rfl (Prod.ext rfl ?_); show _ = _; dsimp only; omega)
      · -- no
        refine tw_skip ?_
        refine tw_b ?_
        refine tw_seq ?_
        refine tw_region ?_
        refine ow_g (g_mv rfl) rfl ?_
        refine ow_g (g_mv rfl) rfl ?_
        refine ow_g (g_nilc rfl) rfl ?_
        refine ow_g (g_fa Try.underlying112 rfl ty3 (by decide) rfl) rfl ?_
        refine ow_g (g_ldb sc3 rfl (by assumption) rfl) rfl ?_
        refine ow_g (g_mv rfl) rfl ?_
        refine ow_g (g_add rfl rfl (by omega)) rfl ?_
        refine ow_g (g_nilc rfl) rfl ?_
        refine ow_g (g_fa Try.underlying112 rfl ty3 (by decide) rfl) rfl ?_
        refine ow_d0 (d_st ty3 rfl rfl rfl hb rfl) ?_
        rintro _ w4 ⟨hb3, k4, z3⟩
        have z_k4 := k4.size
        replace hr := hr.keep k4 (fun x hx hm => Nat.ne_of_lt (hn x hx) (List.mem_singleton.1 hm))
        replace hB := hB.trans k4
        refine ow_nil ?_
        refine tw_seq ?_
        refine tw_drawnT 17 mixed [(0, _), (1, _), (4, _), (6, _), (7, _), (8, _), (9, _), (10, _), (5, _), (12, _), (13, _), (11, _), (18, _), (19, _), (20, _), (21, _), (17, _), (25, _), (26, _), (27, _), (28, _), (29, _), (30, _), (31, _), (32, _), (33, _)] (fun jj v W => match jj with | 0 => ∃ g, v = .slice (some ⟨g, 0, none⟩) 0 0 ∧ Bk W g 5 [] ∧ w4.heap.size ≤ g | 1 => v = .pointer (some ⟨p, 0, none⟩) | 2 => v = .pointer (some ⟨p, 0, none⟩) | 3 => v = .pointer (some ⟨p, 0 + 0, none⟩) | 4 => v = bw | 5 => v = .pointer (some ⟨p, 0, none⟩) | 6 => v = .pointer (some ⟨p, 0, none⟩) | 7 => v = .pointer (some ⟨p, 0 + 1, none⟩) | 8 => v = .int .i64 ((at_ : Int) + n) | 9 => v = .int .i64 n | 10 => v = .int .i64 (((at_ : Int) + n) - n) | 11 => v = .pointer (some ⟨p, 0, none⟩) | 12 => v = .pointer (some ⟨p, 0, none⟩) | 13 => v = .pointer (some ⟨p, 0 + 1, none⟩) | 14 => v = .int .i64 ((at_ : Int) + n) | 15 => RdB W v ((bs.drop at_).take n.toNat) | 16 => OwnB W w4.heap.size v (((bs.drop at_).take n.toNat)) | _ => True) ⟨rfl, rfl, rfl, rfl, rfl, rfl, rfl, rfl, rfl, rfl, rfl, rfl, rfl, rfl, rfl, rfl, rfl, rfl, rfl, rfl, rfl, rfl, rfl, rfl, rfl, rfl, trivial⟩ (by decide) (by decide) rfl ?_ ?_ ?_
        · intro jj v W W' h k
          match jj, h with
          | 0, h => exact (by obtain ⟨g, h1, h2, h3⟩ := h; exact ⟨g, h1, h2.keep0 k, h3⟩)
          | 1, h => exact h
          | 2, h => exact h
          | 3, h => exact h
          | 4, h => exact h
          | 5, h => exact h
          | 6, h => exact h
          | 7, h => exact h
          | 8, h => exact h
          | 9, h => exact h
          | 10, h => exact h
          | 11, h => exact h
          | 12, h => exact h
          | 13, h => exact h
          | 14, h => exact h
          | 15, h => exact h.keep0 k
          | 16, h => exact h.keep0 k
          | _ + 17, _ => trivial
        · refine ⟨?_, ?_, ?_, ?_, ?_, ?_, ?_, ?_, ?_, ?_, ?_, ?_, ?_, ?_, ?_, ?_, ?_, trivial⟩
          · refine ⟨[], rfl, ?_⟩; rintro W1 hk vs hd
            replace hr := hr.keep0 hk
            replace hb3 := hb3.keep0 hk
            replace hB := hB.trans hk.weak
            refine ⟨true, fun a _ => rfl, fun _ => ?_, fun h => by cases h⟩
            refine does_sub [] trivial ?_
            refine (d_bs0 Try.underlying23 ty5 rfl).mono ?_
            rintro v W2 ⟨g, h1, h2, h3, k1⟩; exact ⟨k1, g, h1, h3, by have := hk.size; omega⟩
          · refine ⟨[], rfl, ?_⟩; rintro W1 hk vs hd
            replace hr := hr.keep0 hk
            replace hb3 := hb3.keep0 hk
            replace hB := hB.trans hk.weak
            refine ⟨true, fun a _ => rfl, fun _ => ?_, fun h => by cases h⟩
            refine does_sub [(0, _)] ⟨rfl, trivial⟩ ?_
            refine (Gives.does (g_mv rfl)).mono ?_
            rintro v W2 ⟨rfl, rfl⟩
            exact ⟨Keep.refl _ _, rfl⟩
          · refine ⟨[1], rfl, ?_⟩; rintro W1 hk vs hd
            have d1 : (vs 1) = .pointer (some ⟨p, 0, none⟩) := hd 1 (by decide)
            replace hr := hr.keep0 hk
            replace hb3 := hb3.keep0 hk
            replace hB := hB.trans hk.weak
            refine ⟨true, fun a _ => rfl, fun _ => ?_, fun h => by cases h⟩
            refine does_sub [(35, .pointer (some ⟨p, 0, none⟩))] ⟨congrArg some d1, trivial⟩ ?_
            refine (Gives.does (g_nilc rfl)).mono ?_
            rintro v W2 ⟨rfl, rfl⟩
            exact ⟨Keep.refl _ _, rfl⟩
          · refine ⟨[2], rfl, ?_⟩; rintro W1 hk vs hd
            have d2 : (vs 2) = .pointer (some ⟨p, 0, none⟩) := hd 2 (by decide)
            replace hr := hr.keep0 hk
            replace hb3 := hb3.keep0 hk
            replace hB := hB.trans hk.weak
            refine ⟨true, fun a _ => rfl, fun _ => ?_, fun h => by cases h⟩
            refine does_sub [(36, .pointer (some ⟨p, 0, none⟩))] ⟨congrArg some d2, trivial⟩ ?_
            refine (Gives.does (g_fa Try.underlying112 rfl ty23 (by decide) rfl)).mono ?_
            rintro v W2 ⟨rfl, rfl⟩
            exact ⟨Keep.refl _ _, rfl⟩
          · refine ⟨[3], rfl, ?_⟩; rintro W1 hk vs hd
            have d3 : (vs 3) = .pointer (some ⟨p, 0 + 0, none⟩) := hd 3 (by decide)
            replace hr := hr.keep0 hk
            replace hb3 := hb3.keep0 hk
            replace hB := hB.trans hk.weak
            refine ⟨true, fun a _ => rfl, fun _ => ?_, fun h => by cases h⟩
            refine does_sub [(37, .pointer (some ⟨p, 0 + 0, none⟩))] ⟨congrArg some d3, trivial⟩ ?_
            refine (Gives.does (g_ldb sc23 rfl (by assumption) rfl)).mono ?_
            rintro v W2 ⟨rfl, rfl⟩
            exact ⟨Keep.refl _ _, rfl⟩
          · refine ⟨[], rfl, ?_⟩; rintro W1 hk vs hd
            replace hr := hr.keep0 hk
            replace hb3 := hb3.keep0 hk
            replace hB := hB.trans hk.weak
            refine ⟨true, fun a _ => rfl, fun _ => ?_, fun h => by cases h⟩
            refine does_sub [(0, _)] ⟨rfl, trivial⟩ ?_
            refine (Gives.does (g_mv rfl)).mono ?_
            rintro v W2 ⟨rfl, rfl⟩
            exact ⟨Keep.refl _ _, rfl⟩
          · refine ⟨[5], rfl, ?_⟩; rintro W1 hk vs hd
            have d5 : (vs 5) = .pointer (some ⟨p, 0, none⟩) := hd 5 (by decide)
            replace hr := hr.keep0 hk
            replace hb3 := hb3.keep0 hk
            replace hB := hB.trans hk.weak
            refine ⟨true, fun a _ => rfl, fun _ => ?_, fun h => by cases h⟩
            refine does_sub [(39, .pointer (some ⟨p, 0, none⟩))] ⟨congrArg some d5, trivial⟩ ?_
            refine (Gives.does (g_nilc rfl)).mono ?_
            rintro v W2 ⟨rfl, rfl⟩
            exact ⟨Keep.refl _ _, rfl⟩
          · refine ⟨[6], rfl, ?_⟩; rintro W1 hk vs hd
            have d6 : (vs 6) = .pointer (some ⟨p, 0, none⟩) := hd 6 (by decide)
            replace hr := hr.keep0 hk
            replace hb3 := hb3.keep0 hk
            replace hB := hB.trans hk.weak
            refine ⟨true, fun a _ => rfl, fun _ => ?_, fun h => by cases h⟩
            refine does_sub [(40, .pointer (some ⟨p, 0, none⟩))] ⟨congrArg some d6, trivial⟩ ?_
            refine (Gives.does (g_fa Try.underlying112 rfl ty3 (by decide) rfl)).mono ?_
            rintro v W2 ⟨rfl, rfl⟩
            exact ⟨Keep.refl _ _, rfl⟩
          · refine ⟨[7], rfl, ?_⟩; rintro W1 hk vs hd
            have d7 : (vs 7) = .pointer (some ⟨p, 0 + 1, none⟩) := hd 7 (by decide)
            replace hr := hr.keep0 hk
            replace hb3 := hb3.keep0 hk
            replace hB := hB.trans hk.weak
            refine ⟨true, fun a _ => rfl, fun _ => ?_, fun h => by cases h⟩
            refine does_sub [(41, .pointer (some ⟨p, 0 + 1, none⟩))] ⟨congrArg some d7, trivial⟩ ?_
            refine (Gives.does (g_ldb sc3 rfl (by assumption) rfl)).mono ?_
            rintro v W2 ⟨rfl, rfl⟩
            exact ⟨Keep.refl _ _, rfl⟩
          · refine ⟨[], rfl, ?_⟩; rintro W1 hk vs hd
            replace hr := hr.keep0 hk
            replace hb3 := hb3.keep0 hk
            replace hB := hB.trans hk.weak
            refine ⟨true, fun a _ => rfl, fun _ => ?_, fun h => by cases h⟩
            refine does_sub [(1, _)] ⟨rfl, trivial⟩ ?_
            refine (Gives.does (g_mv rfl)).mono ?_
            rintro v W2 ⟨rfl, rfl⟩
            exact ⟨Keep.refl _ _, rfl⟩
          · refine ⟨[8, 9], rfl, ?_⟩; rintro W1 hk vs hd
            have d8 : (vs 8) = .int .i64 ((at_ : Int) + n) := hd 8 (by decide)
            have d9 : (vs 9) = .int .i64 n := hd 9 (by decide)
            replace hr := hr.keep0 hk
            replace hb3 := hb3.keep0 hk
            replace hB := hB.trans hk.weak
            refine ⟨true, fun a _ => rfl, fun _ => ?_, fun h => by cases h⟩
            refine does_sub [(42, .int .i64 ((at_ : Int) + n)), (43, .int .i64 n)] ⟨congrArg some d8, congrArg some d9, trivial⟩ ?_
            refine (Gives.does (g_sub rfl rfl (by omega))).mono ?_
            rintro v W2 ⟨rfl, rfl⟩
            exact ⟨Keep.refl _ _, rfl⟩
          · refine ⟨[], rfl, ?_⟩; rintro W1 hk vs hd
            replace hr := hr.keep0 hk
            replace hb3 := hb3.keep0 hk
            replace hB := hB.trans hk.weak
            refine ⟨true, fun a _ => rfl, fun _ => ?_, fun h => by cases h⟩
            refine does_sub [(0, _)] ⟨rfl, trivial⟩ ?_
            refine (Gives.does (g_mv rfl)).mono ?_
            rintro v W2 ⟨rfl, rfl⟩
            exact ⟨Keep.refl _ _, rfl⟩
          · refine ⟨[11], rfl, ?_⟩; rintro W1 hk vs hd
            have d11 : (vs 11) = .pointer (some ⟨p, 0, none⟩) := hd 11 (by decide)
            replace hr := hr.keep0 hk
            replace hb3 := hb3.keep0 hk
            replace hB := hB.trans hk.weak
            refine ⟨true, fun a _ => rfl, fun _ => ?_, fun h => by cases h⟩
            refine does_sub [(45, .pointer (some ⟨p, 0, none⟩))] ⟨congrArg some d11, trivial⟩ ?_
            refine (Gives.does (g_nilc rfl)).mono ?_
            rintro v W2 ⟨rfl, rfl⟩
            exact ⟨Keep.refl _ _, rfl⟩
          · refine ⟨[12], rfl, ?_⟩; rintro W1 hk vs hd
            have d12 : (vs 12) = .pointer (some ⟨p, 0, none⟩) := hd 12 (by decide)
            replace hr := hr.keep0 hk
            replace hb3 := hb3.keep0 hk
            replace hB := hB.trans hk.weak
            refine ⟨true, fun a _ => rfl, fun _ => ?_, fun h => by cases h⟩
            refine does_sub [(46, .pointer (some ⟨p, 0, none⟩))] ⟨congrArg some d12, trivial⟩ ?_
            refine (Gives.does (g_fa Try.underlying112 rfl ty3 (by decide) rfl)).mono ?_
            rintro v W2 ⟨rfl, rfl⟩
            exact ⟨Keep.refl _ _, rfl⟩
          · refine ⟨[13], rfl, ?_⟩; rintro W1 hk vs hd
            have d13 : (vs 13) = .pointer (some ⟨p, 0 + 1, none⟩) := hd 13 (by decide)
            replace hr := hr.keep0 hk
            replace hb3 := hb3.keep0 hk
            replace hB := hB.trans hk.weak
            refine ⟨true, fun a _ => rfl, fun _ => ?_, fun h => by cases h⟩
            refine does_sub [(47, .pointer (some ⟨p, 0 + 1, none⟩))] ⟨congrArg some d13, trivial⟩ ?_
            refine (Gives.does (g_ldb sc3 rfl (by assumption) rfl)).mono ?_
            rintro v W2 ⟨rfl, rfl⟩
            exact ⟨Keep.refl _ _, rfl⟩
          · refine ⟨[4, 10, 14], rfl, ?_⟩; rintro W1 hk vs hd
            have d4 : (vs 4) = bw := hd 4 (by decide)
            have d10 : (vs 10) = .int .i64 (((at_ : Int) + n) - n) := hd 10 (by decide)
            have d14 : (vs 14) = .int .i64 ((at_ : Int) + n) := hd 14 (by decide)
            replace hr := hr.keep0 hk
            replace hb3 := hb3.keep0 hk
            replace hB := hB.trans hk.weak
            refine ⟨true, fun a _ => rfl, fun _ => ?_, fun h => by cases h⟩
            refine does_sub [(38, bw), (44, .int .i64 (((at_ : Int) + n) - n)), (48, .int .i64 ((at_ : Int) + n))] ⟨congrArg some d4, congrArg some d10, congrArg some d14, trivial⟩ ?_
            have hct := (show RdB W1 bw bs by assumption).cutB (l := at_) (hi := at_ + n.toNat) (by omega) (by omega)
            rw [show at_ + n.toNat - at_ = n.toNat from by omega] at hct
            refine (Gives.does (g_sl Try.underlying23 ty5 rfl (show RdB W1 bw bs by assumption) (.inr ⟨_, _, rfl, rfl⟩) (.inr ⟨_, _, rfl, rfl⟩) ⟨by omega, by omega, by omega⟩)).mono ?_
            rintro v W2 ⟨rfl, rfl⟩
            refine ⟨Keep.refl _ _, ?_⟩
            rw [show ((at_ : Int) + n - n).toNat = at_ from by omega, show ((at_ : Int) + n).toNat = at_ + n.toNat from by omega]; exact hct
          · refine ⟨[0, 15], rfl, ?_⟩; rintro W1 hk vs hd
            have d0 : ∃ g, (vs 0) = .slice (some ⟨g, 0, none⟩) 0 0 ∧ Bk W1 g 5 [] ∧ w4.heap.size ≤ g := hd 0 (by decide)
            have d15 : RdB W1 (vs 15) ((bs.drop at_).take n.toNat) := hd 15 (by decide)
            replace hr := hr.keep0 hk
            replace hb3 := hb3.keep0 hk
            replace hB := hB.trans hk.weak
            refine ⟨true, fun a _ => rfl, fun _ => ?_, fun h => by cases h⟩
            refine does_sub [(34, vs 0), (49, vs 15)] ⟨rfl, rfl, trivial⟩ ?_
            obtain ⟨g, h1, h2, h3⟩ := d0
            rw [h1]
            refine (d_app0 Try.underlying23 ty5 rfl rfl rfl h2 (Nat.le_trans h3 (Nat.le_refl _)) rfl d15 (by rw [List.length_take]; omega)).mono ?_
            rintro v W2 ⟨o1, k1⟩; exact ⟨k1, o1⟩
        rintro w5 k5 vs hv
        have z_k5 := k5.size
        replace hr := hr.keep0 k5
        replace hb3 := hb3.keep0 k5
        replace hB := hB.trans k5.weak
        have e50 : OwnB w5 w4.heap.size (vs 16) (((bs.drop at_).take n.toNat)) := hv 16 (by decide) rfl
        refine ow_keep [(50, vs 16), (0, _), (1, _), (4, _), (6, _), (7, _), (8, _), (9, _), (10, _), (5, _), (12, _), (13, _), (11, _), (18, _), (19, _), (20, _), (21, _), (17, _), (25, _), (26, _), (27, _), (28, _), (29, _), (30, _), (31, _), (32, _), (33, _)] ⟨rfl, rfl, rfl, rfl, rfl, rfl, rfl, rfl, rfl, rfl, rfl, rfl, rfl, rfl, rfl, rfl, rfl, rfl, rfl, rfl, rfl, rfl, rfl, rfl, rfl, rfl, rfl, trivial⟩ ?_
        have o1 := e50
        have u_o1 := o1.blk
        refine ow_g (g_as rfl) rfl ?_
        refine ow_nil ?_
        refine tw_ret1 hfin Try.results89 rfl ?_
        rw [show ((at_ : Int) + n) = ((at_ + n.toNat : Nat) : Int) from by omega] at hb3
        refine ⟨((bs.drop at_).take n.toNat, (bs.drop at_).drop n.toNat, e), at_ + n.toNat, ?_, o1.lo (by have := hp0; omega), ⟨hb3, hr, hn, by omega, hbl⟩, List.drop_drop, hB⟩
        unfold rTake
        repeat (first | rw [if_pos (by assumption)] | rw [if_neg (by assumption)] | rw [if_pos (by omega)] | rw [if_neg (by omega)])
        all_goals first | rfl | (refine Prod.ext rfl (Prod.ext rfl ?_); show _ = _; dsimp only; omega)
theorem rVec_gen {rest : List UInt8} {e e2 : Int} {r1 : Int × List UInt8 × Int} {r2 : List UInt8 × List UInt8 × Int} (h1 : r1 = rLen rest e) (he : r1.2.2 = 0 ∧ 65536 < r1.1 ∧ e2 = 21 ∨ ¬ (r1.2.2 = 0 ∧ 65536 < r1.1) ∧ e2 = r1.2.2) (h2 : r2 = rTake r1.2.1 e2 r1.1) :
    (r2.2.2 ≠ 0 → rVec rest e = ([], rest, r2.2.2)) ∧ (r2.2.2 = 0 → rVec rest e = r2) := by
  by_cases h0 : e = 0
  · subst h0
    rcases he with ⟨a, b, rfl⟩ | ⟨a, rfl⟩
    · exact ⟨fun h => (rVec_far h1 h2 ⟨a, b⟩ h).symm, fun h => (rVec_ok21 h1 h2 ⟨a, b⟩ h).symm⟩
    · have a' : ¬ r1.2.2 = 0 ∨ ¬ 65536 < r1.1 := by omega
      exact ⟨fun h => (rVec_bad h1 h2 a' h).symm, fun h => (rVec_ok h1 h2 a' h).symm⟩
  · have e1 : rLen rest e = (0, rest, e) := by unfold rLen; rw [if_pos h0]
    rw [e1] at h1; subst h1
    rcases he with ⟨a, _⟩ | ⟨_, h3⟩
    · exact absurd a h0
    · rw [show e2 = e from h3] at h2
      rw [rTake_bad _ _ _ h0] at h2; subst h2
      have e2 : rVec rest e = ([], rest, e) := by unfold rVec; rw [if_pos h0]
      exact ⟨fun _ => e2, fun h => absurd h h0⟩
set_option maxRecDepth 100000 in
theorem rrvec_any (p at_ : Nat) (bs : List UInt8) (bw : Value) (e : Int) (w : World) (h : RdA w p bs bw at_ e) : Rets Try.prog 47 [.pointer (some ⟨p, 0, none⟩)] w (fun v w' => ∃ r a2, r = rVec (bs.drop at_) e ∧ OwnB w' w.heap.size v r.1 ∧ RdA w' p bs bw a2 r.2.2 ∧ r.2.1 = bs.drop a2 ∧ Keep [p] w w') := by
 obtain ⟨hb, hr, hn, hal, hbl⟩ := h
 have hB : Keep [p] w w := Keep.refl _ _
 have hcap := hr.vcap
 have hdl : (bs.drop at_).length = bs.length - at_ := List.length_drop
 have hg0 : gb bs (at_ : Int) = (((bs.drop at_).getD 0 0).toNat : Int) := by unfold gb; rw [List.getD_eq_getElem?_getD, List.getD_eq_getElem?_getD, List.getElem?_drop, Int.toNat_natCast, Nat.add_zero]
 have hp0 := hb.lt
 refine rets_of_tw Try.func47 rfl (by decide) Try.ntmps47 rfl (fun fin _ hfin => ?_)
 refine tw_seq (tw_region (ow_g (g_as rfl) rfl (ow_nil (tw_seq (tw_region (ow_g (g_mv rfl) rfl ?_))))))
 refine ow_g (g_nilc rfl) rfl ?_
 refine ow_g (g_fa Try.underlying112 rfl ty3 (by decide) rfl) rfl ?_
 refine ow_g (g_ldb sc3 rfl ‹_› rfl) rfl ?_
 refine ow_g (g_as rfl) rfl (ow_nil (tw_seq (tw_region (ow_g (g_mv rfl) rfl (ow_d (d_call (vs := [_]) rfl (rrlen_any _ at_ _ _ e _ ⟨hb, hr, hn, hal, hbl⟩)) rfl ?_)))))
 rintro _ w1 ⟨r1, a1, hr1, rfl, R1, hq1, k1⟩
 replace hB := hB.trans k1
 obtain ⟨hb, hr, _, hala1, _⟩ := R1
 refine ow_g (g_as rfl) rfl (ow_nil (tw_seq (tw_seq (tw_region (ow_g (g_mv rfl) rfl (ow_g (g_nilc rfl) rfl ?_))))))
 refine ow_g (g_fa Try.underlying112 rfl ty3 (by decide) rfl) rfl ?_
 refine ow_g (g_ldb sc3 rfl ‹_› rfl) rfl ?_
 refine ow_g (g_eq rfl rfl) rfl ?_
 refine ow_g (g_mv rfl) rfl (ow_grp 17 true rfl (fun c1 hgc1 => ?_))
 refine ow_gg [(4, _)] (grd1 rfl rfl rfl hgc1) ⟨und0 rfl, trivial⟩ (fun hw1 => g_mv rfl) rfl ?_
 refine ow_gg [(18, _)] (grd1 rfl rfl rfl hgc1) ⟨und1 rfl, trivial⟩ (fun hw2 => g_gt rfl rfl) rfl ?_
 refine ow_g (g_pand rfl rfl hgc1) rfl ?_
 refine ow_nil (tw_cond rfl (fun hc1 => ?_) (fun hc1 => ?_))
 ·
  have hd1 := hc1
  try (simp only [Bool.and_eq_true, Bool.or_eq_true, decide_eq_true_eq, Bool.and_eq_false_iff, Bool.or_eq_false_iff, decide_eq_false_iff_not, Bool.not_eq_true', Bool.not_eq_false', Bool.not_eq_true, Bool.not_eq_false, ne_eq, Decidable.not_not, decide_true, decide_false, Bool.true_and, Bool.false_and, Bool.or_false, Bool.false_or, not_true_eq_false, false_or, or_false, true_and, and_true, not_false_eq_true, reduceCtorEq] at hd1)
  refine tw_region (ow_g (g_mv rfl) rfl (ow_g (g_nilc rfl) rfl ?_))
  refine ow_g (g_fa Try.underlying112 rfl ty3 (by decide) rfl) rfl ?_
  refine ow_d0 (d_st ty3 rfl rfl rfl hb rfl) ?_
  rintro _ w2 ⟨hb1, k2, z1⟩
  have z_k2 := k2.size
  replace hr := hr.keep k2 (fun x hx hm => Nat.ne_of_lt (hn x hx) (List.mem_singleton.1 hm))
  replace hB := hB.trans k2
  refine ow_nil (tw_seq (tw_region (ow_g (g_mv rfl) rfl (ow_g (g_mv rfl) rfl ?_))))
  have hs1 := hB.size
  refine ow_d (d_call (vs := [_, _]) rfl (rrtake_any _ a1 _ _ (21) r1.1 _ ⟨hb1, hr, hn, hala1, hbl⟩)) rfl ?_
  rintro v1 w3 ⟨r2, a2, hr2, o1, R2, hq2, k3⟩
  replace hB := hB.trans k3
  obtain ⟨hb, hr, _, hala2, _⟩ := R2
  have u_o1 := o1.blk
  rw [← hq1] at hr2
  have hgen := rVec_gen hr1 (e2 := 21) (by first | exact Or.inl ⟨hd1.1, hd1.2, rfl⟩ | (refine Or.inr ⟨?_, rfl⟩; omega)) hr2
  refine ow_g (g_as rfl) rfl (ow_nil (tw_seq (tw_seq (tw_region (ow_g (g_mv rfl) rfl (ow_g (g_nilc rfl) rfl ?_))))))
  refine ow_g (g_fa Try.underlying112 rfl ty3 (by decide) rfl) rfl ?_
  refine ow_g (g_ldb sc3 rfl ‹_› rfl) rfl ?_
  refine ow_g (g_ne rfl rfl) rfl ?_
  refine ow_nil (tw_if rfl (fun hc2 => ?_) (fun hc2 => ?_))
  ·
   refine tw_seq (tw_region (ow_g (g_mv rfl) rfl (ow_g (g_mv rfl) rfl (ow_g (g_nilc rfl) rfl ?_))))
   refine ow_g (g_fa Try.underlying112 rfl ty3 (by decide) rfl) rfl ?_
   refine ow_d0 (d_st ty3 rfl rfl rfl hb rfl) ?_
   rintro _ w4 ⟨hb2, k4, z2⟩
   have z_k4 := k4.size
   replace hr := hr.keep k4 (fun x hx hm => Nat.ne_of_lt (hn x hx) (List.mem_singleton.1 hm))
   replace o1 := o1.keep k4 (fun x hx hm => by have h1 := u_o1 x hx; have h2 := List.mem_singleton.1 hm; omega)
   replace hB := hB.trans k4
   refine ow_nil (tw_seq (tw_region (ow_g (g_as rfl) rfl (ow_nil (tw_ret1 hfin Try.results47 rfl ?_)))))
   exact ⟨([], bs.drop at_, r2.2.2), at_, (hgen.1 ‹_›).symm, own_nil _ _ _ _, ⟨hb2, hr, hn, hal, hbl⟩, rfl, hB⟩
  ·
   refine tw_skip (tw_seq (tw_region (ow_g (g_mv rfl) rfl (ow_g (g_as rfl) rfl (ow_nil (tw_ret1 hfin Try.results47 rfl ?_))))))
   exact ⟨r2, a2, (hgen.2 (by omega)).symm, o1.lo hs1, ⟨hb, hr, hn, hala2, hbl⟩, hq2, hB⟩
 ·
  have hd2 := hc1
  try (simp only [Bool.and_eq_true, Bool.or_eq_true, decide_eq_true_eq, Bool.and_eq_false_iff, Bool.or_eq_false_iff, decide_eq_false_iff_not, Bool.not_eq_true', Bool.not_eq_false', Bool.not_eq_true, Bool.not_eq_false, ne_eq, Decidable.not_not, decide_true, decide_false, Bool.true_and, Bool.false_and, Bool.or_false, Bool.false_or, not_true_eq_false, false_or, or_false, true_and, and_true, not_false_eq_true, reduceCtorEq] at hd2)
  refine tw_skip (tw_seq (tw_region (ow_g (g_mv rfl) rfl (ow_g (g_mv rfl) rfl ?_))))
  have hs1 := hB.size
  refine ow_d (d_call (vs := [_, _]) rfl (rrtake_any _ a1 _ _ (r1.2.2) r1.1 _ ⟨hb, hr, hn, hala1, hbl⟩)) rfl ?_
  rintro v2 w5 ⟨r2, a2, hr2, o2, R3, hq2, k5⟩
  replace hB := hB.trans k5
  obtain ⟨hb, hr, _, hala2, _⟩ := R3
  have u_o2 := o2.blk
  rw [← hq1] at hr2
  have hgen := rVec_gen hr1 (e2 := r1.2.2) (by first | exact Or.inl ⟨hd1.1, hd1.2, rfl⟩ | (refine Or.inr ⟨?_, rfl⟩; omega)) hr2
  refine ow_g (g_as rfl) rfl (ow_nil (tw_seq (tw_seq (tw_region (ow_g (g_mv rfl) rfl (ow_g (g_nilc rfl) rfl ?_))))))
  refine ow_g (g_fa Try.underlying112 rfl ty3 (by decide) rfl) rfl ?_
  refine ow_g (g_ldb sc3 rfl ‹_› rfl) rfl ?_
  refine ow_g (g_ne rfl rfl) rfl ?_
  refine ow_nil (tw_if rfl (fun hc3 => ?_) (fun hc3 => ?_))
  ·
   refine tw_seq (tw_region (ow_g (g_mv rfl) rfl (ow_g (g_mv rfl) rfl (ow_g (g_nilc rfl) rfl ?_))))
   refine ow_g (g_fa Try.underlying112 rfl ty3 (by decide) rfl) rfl ?_
   refine ow_d0 (d_st ty3 rfl rfl rfl hb rfl) ?_
   rintro _ w6 ⟨hb3, k6, z3⟩
   have z_k6 := k6.size
   replace hr := hr.keep k6 (fun x hx hm => Nat.ne_of_lt (hn x hx) (List.mem_singleton.1 hm))
   replace o2 := o2.keep k6 (fun x hx hm => by have h1 := u_o2 x hx; have h2 := List.mem_singleton.1 hm; omega)
   replace hB := hB.trans k6
   refine ow_nil (tw_seq (tw_region (ow_g (g_as rfl) rfl (ow_nil (tw_ret1 hfin Try.results47 rfl ?_)))))
   exact ⟨([], bs.drop at_, r2.2.2), at_, (hgen.1 ‹_›).symm, own_nil _ _ _ _, ⟨hb3, hr, hn, hal, hbl⟩, rfl, hB⟩
  ·
   refine tw_skip (tw_seq (tw_region (ow_g (g_mv rfl) rfl (ow_g (g_as rfl) rfl (ow_nil (tw_ret1 hfin Try.results47 rfl ?_))))))
   exact ⟨r2, a2, (hgen.2 (by omega)).symm, o2.lo hs1, ⟨hb, hr, hn, hala2, hbl⟩, hq2, hB⟩
theorem rvector_any (p : Nat) (rest : List UInt8) (e : Int) (w : World) (h : RdR w p rest e) : Rets Try.prog 47 [.pointer (some ⟨p, 0, none⟩)] w (fun v w' => ∃ r, r = rVec rest e ∧ OwnB w' w.heap.size v r.1 ∧ RdR w' p r.2.1 r.2.2 ∧ Keep [p] w w') := by
  obtain ⟨bs, bw, a, rfl, hA⟩ := h.rdA
  refine (rrvec_any p a bs bw e w hA).mono fun v w' ⟨r, a2, h1, h2, h3, h4, h5⟩ => ⟨r, h1, h2, ?_, h5⟩
  rw [h4]; exact h3.rdR
end Go.Proofs.Ytimeclfplaonkaa.W
namespace Go.Eng
open Go Go.IntWalk
def ivF (k : IntKind) (f : Nat → Int) : Nat → Nat → List Value
  | _, 0 => []
  | i, n + 1 => .int k (f i) :: ivF k f (i + 1) n
abbrev iv (k : IntKind) (n : Nat) (f : Nat → Int) : List Value := ivF k f 0 n
@[simp] theorem ivF_length (k : IntKind) (f : Nat → Int) : ∀ (n i : Nat), (ivF k f i n).length = n
  | 0, _ => rfl
  | n + 1, i => by simp [ivF, ivF_length k f n]
def In (x lo hi : Int) : Prop := lo ≤ x ∧ x ≤ hi
def Le (a b : Int) : Prop := a ≤ b
instance (a b : Int) : Decidable (Le a b) := inferInstanceAs (Decidable (a ≤ b))
instance (x lo hi : Int) : Decidable (In x lo hi) := inferInstanceAs (Decidable (lo ≤ x ∧ x ≤ hi))
section
variable {P : Program} {n : Nat} {f : Fr} {w : World} {ty : TypeId} {fin : Exit → Act → World → Prop} {k : List KI} {ops : Array Oper} {l : List Oper}
end
end Go.Eng
namespace Go.Eng
open Go Go.IntWalk
section
variable {P : Program} {n : Nat} {f : Fr} {w : World} {ty : TypeId} {fin : Exit → Act → World → Prop} {k : List KI} {ops : Array Oper} {tl l : List Oper}
end
end Go.Eng
namespace Go.Eng
open Go Go.IntWalk
section
variable {P : Program} {n : Nat}
def PStep (P : Program) (n : Nat) (ops : Array Oper) (o : Oper) (f1 : Fr) (w : World) (R : Value → World → Prop) : Prop :=
  ∀ a, Kn n f1 a → ∀ (K : Act → World → Prop) (Q : Exit → Act → World → Prop), (∀ v w', R v w' → K (a.put o.dst v) w') →
    (Region.wanted o (yielded ops a.tmps) = true → Oper.wp P o a w K Q) ∧ (Region.wanted o (yielded ops a.tmps) = false → K (a.put o.dst undef) w)
def depB (l : List Oper) (i j : Nat) : Bool := match l[i]? with
  | none => false
  | some o => o.after.toList.any fun e => e.on == j && Region.binds .any e
def slotsOk (l : List Oper) (p i : Nat) (f1 : Fr) : Bool :=
  f1.all fun q => (List.range p).all (fun j => !hasDst l j || dstOf l j != q.1) || (List.range p).any (fun j => depB l i j && (hasDst l j && dstOf l j == q.1))
def eager (l : List Oper) (cb : Nat → Bool) : List Nat → Bool
  | [] => true
  | c :: r => !r.contains c && (!cb c || r.all fun i => (c :: r).any fun j => depB l i j) && eager l cb r
theorem PStep.mono {ops : Array Oper} {o : Oper} {f1 : Fr} {w : World} {R R' : Value → World → Prop} (h : PStep P n ops o f1 w R) (hr : ∀ v w', R v w' → R' v w') : PStep P n ops o f1 w R' :=
  fun a ha K Q hK => h a ha K Q (fun v w' hv => hK v w' (hr v w' hv))
theorem sub_get : ∀ {f1 f : Fr}, Fr.sub f1 f → ∀ t u, f1.get t = some u → f.get t = some u
  | [], _, _, t, u, h => by cases h
  | (k, v) :: r, f, ⟨h1, h2⟩, t, u, h => by
    simp only [Fr.get] at h
    by_cases e : Nat.beq k t = true
    · rw [e] at h
      simp only [cond_true, Option.some.injEq] at h
      have e' : k = t := Nat.eq_of_beq_eq_true e
      subst e' h; exact h1
    · have e' : Nat.beq k t = false := eq_false_of_ne_true e
      rw [e'] at h
      exact sub_get h2 t u h
theorem get_mem : ∀ {f1 : Fr} {t : Nat} {u : Value}, f1.get t = some u → ∃ q, q ∈ f1 ∧ q.1 = t
  | [], t, u, h => by cases h
  | (k, v) :: r, t, u, h => by
    simp only [Fr.get] at h
    by_cases e : Nat.beq k t = true
    · exact ⟨(k, v), by simp, Nat.eq_of_beq_eq_true e⟩
    · have e' : Nat.beq k t = false := eq_false_of_ne_true e
      rw [e'] at h
      obtain ⟨q, hq, hq'⟩ := get_mem (f1 := r) h
      exact ⟨q, by simp [hq], hq'⟩
theorem eager_split {l : List Oper} {cb : Nat → Bool} : ∀ {pre rest : List Nat}, eager l cb (pre ++ rest) = true → eager l cb rest = true ∧ (∀ i, i ∈ pre → i ∉ rest)
  | [], _, h => ⟨h, fun i hi => by cases hi⟩
  | c :: r, rest, h => by
    simp only [List.cons_append, eager, Bool.and_eq_true] at h
    obtain ⟨h1, h2⟩ := eager_split (pre := r) h.2
    refine ⟨h1, fun i hi hm => ?_⟩
    rcases List.mem_cons.1 hi with rfl | hi
    · have := h.1.1
      simp [hm] at this
    · exact h2 i hi hm
theorem draw_distinct {l : List Oper} (hok : drawOk n l = true) {i j : Nat} (hi : i < l.length) (hj : j < l.length) (hdi : hasDst l i = true) (hdj : hasDst l j = true) (he : dstOf l i = dstOf l j) : i = j := by
  have h1 := List.all_eq_true.1 hok i (List.mem_range.2 hi)
  have hget : l[i]? = some l[i] := List.getElem?_eq_getElem hi
  simp only [hget, Bool.and_eq_true] at h1
  have h2 := h1.2
  have hs : l[i].dst.isSome = true := by
    unfold hasDst at hdi; rw [hget] at hdi; simpa using hdi
  rw [hs, Bool.not_true, Bool.false_or] at h2
  have h3 := List.all_eq_true.1 h2 j (List.mem_range.2 hj)
  simp only [Bool.or_eq_true, beq_iff_eq, bne_iff_ne, ne_eq, Bool.not_eq_true'] at h3
  rcases h3 with (h3 | h3) | h3
  · exact h3
  · exact absurd he h3
  · rw [hdj] at h3; cases h3
section
variable {l : List Oper} {p : Nat} {T : List Nat} {cb : Nat → Bool} {Fin : Fr → World → Prop} {f0 : Fr}
def Lk (l : List Oper) (f0 : Fr) (pre : List Nat) (vs : Nat → Value) (i : Nat) (f1 : Fr) : Prop :=
  ∀ t u, f1.get t = some u → (∃ j, j ∈ pre ∧ depB l i j = true ∧ dstOf l j = t ∧ vs j = u) ∨ f0.get t = some u
def RdOk (P : Program) (n : Nat) (l : List Oper) (T : List Nat) (f0 : Fr) (pre : List Nat) (vs : Nat → Value) (w : World) (i : Nat) : Prop :=
  ∃ o f1, l[i]? = some o ∧ Lk l f0 pre vs i f1 ∧ ∀ w', Keep T w w' → PStep P n l.toArray o f1 w' (fun v' w'' => v' = vs i ∧ w'' = w')
theorem Lk.mono {pre pre' : List Nat} {vs vs' : Nat → Value} {i : Nat} {f1 : Fr} (h : Lk l f0 pre vs i f1) (hm : ∀ j, j ∈ pre → j ∈ pre' ∧ vs' j = vs j) : Lk l f0 pre' vs' i f1 := by
  intro t u ht
  rcases h t u ht with ⟨j, h1, h2, h3, h4⟩ | h1
  · exact .inl ⟨j, (hm j h1).1, h2, h3, by rw [(hm j h1).2, h4]⟩
  · exact .inr h1
theorem RdOk.mono {pre pre' : List Nat} {vs vs' : Nat → Value} {w w' : World} {i : Nat} (h : RdOk P n l T f0 pre vs w i) (hi : i ∈ pre) (hm : ∀ j, j ∈ pre → j ∈ pre' ∧ vs' j = vs j) (hk : Keep T w w') : RdOk P n l T f0 pre' vs' w' i := by
  obtain ⟨o, f1, h1, h2, h3⟩ := h
  refine ⟨o, f1, h1, h2.mono hm, fun w2 hk2 => ?_⟩
  rw [(hm i hi).2]
  exact h3 w2 (hk.trans hk2)
def setV (vs : Nat → Value) (i : Nat) (v : Value) : Nat → Value := fun j => bif Nat.beq j i then v else vs j
theorem setV_same (vs : Nat → Value) (i : Nat) (v : Value) : setV vs i v i = v := by simp [setV]
theorem setV_other (vs : Nat → Value) {i j : Nat} (v : Value) (h : j ≠ i) : setV vs i v j = vs j := by
  unfold setV
  cases hb : Nat.beq j i with
  | false => rfl
  | true => exact absurd (Nat.eq_of_beq_eq_true hb) h
end
variable {fin : Exit → Act → World → Prop} {k : List KI} {f : Fr} {w : World}
end
end Go.Eng
namespace Go.Eng
open Go Go.IntWalk
section
variable {P : Program} {n : Nat} {f : Fr} {w : World} {ty : TypeId} {fin : Exit → Act → World → Prop} {k : List KI} {l : List Oper} {p : Nat} {T cs r : List Nat} {Fin : Fr → World → Prop} {i : Nat}
theorem dstOf_at {d : Nat} {op : Op} {pos : String} {aft : Array Edge} {g : Option (Nat × Bool)} (ho : l[i]? = some ⟨some d, op, ty, pos, aft, g⟩) : dstOf l i = d := by unfold dstOf; rw [ho]; rfl
theorem pstep_g {f1 : Fr} {ops : Array Oper} {d : Nat} {op : Op} {pos : String} {aft : Array Edge} {v : Value} (hr : Gives P n f1 w op ty v w) : PStep P n ops ⟨some d, op, ty, pos, aft, none⟩ f1 w (fun v' w'' => v' = v ∧ w'' = w) := by
  intro a ha K Q hK
  refine ⟨fun _ => ?_, fun h => by simp [Region.wanted] at h⟩
  unfold Oper.wp
  rw [hr a ha]
  exact hK _ _ ⟨rfl, rfl⟩
end
end Go.Eng
namespace Go.Eng
open Go Go.IntWalk
def cblk : Value → List Nat
  | .tuple vs => vs.toList.flatMap fun u => u.cells.toList.flatMap vblk
  | v => v.cells.toList.flatMap vblk
section
variable {P : Program} {n : Nat}
def tailOk2 (l : List Oper) (p : Nat) : Bool := Nat.ble p l.length && ((List.range l.length).all fun i => !(Nat.blt p i) || depB l i (i - 1)) && (Nat.ble l.length p || (List.range p).all fun j => (List.range (p + 1)).any fun m => Nat.blt j m && depB l m j)
theorem dep_edge {l : List Oper} {i j : Nat} (h : depB l i j = true) : ∃ o, l[i]? = some o ∧ ∃ e ∈ o.after, e.on = j ∧ Region.binds .any e = true := by
  unfold depB at h
  cases ho : l[i]? with
  | none => rw [ho] at h; cases h
  | some o =>
    rw [ho] at h
    obtain ⟨e, he, h3⟩ := List.any_eq_true.1 h
    simp only [Bool.and_eq_true, beq_iff_eq] at h3
    exact ⟨o, rfl, e, Array.mem_toList_iff.1 he, h3.1, h3.2⟩
theorem tail2_next {l : List Oper} {p i : Nat} (h : tailOk2 l p = true) (hi : i < l.length) (hp : p < i) : depB l i (i - 1) = true := by
  simp only [tailOk2, Bool.and_eq_true] at h
  have h1 := List.all_eq_true.1 h.1.2 i (List.mem_range.2 hi)
  have hn : Nat.blt p i = true := Nat.ble_eq_true_of_le hp
  rw [hn] at h1; simpa using h1
theorem tail2_all {l : List Oper} {p : Nat} {S : Nat → Prop} (h : tailOk2 l p = true) (hp : p < l.length) (hS : ∀ i j, i = p ∨ S i → depB l i j = true → S j) : ∀ d j, j < p → d = p - j → S j := by
  intro d
  induction d using Nat.strongRecOn with
  | ind d ih =>
    intro j hj hd
    simp only [tailOk2, Bool.and_eq_true, Bool.or_eq_true] at h
    rcases h.2 with h1 | h1
    · have := Nat.le_of_ble_eq_true h1; omega
    · obtain ⟨m, hm, h2⟩ := List.any_eq_true.1 (List.all_eq_true.1 h1 j (List.mem_range.2 hj))
      simp only [Bool.and_eq_true] at h2
      have h3 := blt_lt h2.1
      have h4 := List.mem_range.1 hm
      refine hS m j ?_ h2.2
      rcases Nat.lt_or_ge m p with h5 | h5
      · exact .inr (ih (p - m) (by omega) m h5 rfl)
      · exact .inl (by omega)
theorem wpAny_tail2 {l : List Oper} {p0 : Nat} {Q : Exit → Act → World → Prop} (hok : drawOk n l = true) (ht : tailOk2 l p0 = true) : ∀ (d p fuel : Nat) (listed : Array Bool) (a : Act) (w : World), d = l.length - p → p ≤ l.length → p0 ≤ p → d ≤ fuel → listed.size = l.length →
    (∀ i, i < l.length → listed.getD i false = decide (i < p)) → wpList P l.toArray Q (l.drop p) a w → wpAny P .any l.toArray Q fuel listed a w := by
  intro d
  induction d with
  | zero =>
    intro p fuel listed a w hd hp hp0 hf hs hl h
    have hpl : p = l.length := by omega
    subst hpl
    rw [List.drop_length] at h
    have hr : Region.ready .any l.toArray listed = [] := by
      cases hr : Region.ready .any l.toArray listed with
      | nil => rfl
      | cons i r =>
        exfalso
        have hi : i ∈ Region.ready .any l.toArray listed := by rw [hr]; simp
        obtain ⟨h0, o, ho, _⟩ := mem_ready.1 hi
        have hlt : i < l.length := by have := (Array.getElem?_eq_some_iff.1 ho).1; simpa using this
        rw [getD_lists hs hlt true false, hl i hlt] at h0
        simp [hlt] at h0
    cases fuel with
    | zero => exact ⟨hr, h⟩
    | succ f => exact ⟨fun _ => h, fun i hi => by rw [hr] at hi; cases hi⟩
  | succ d ih =>
    intro p fuel listed a w hd hp hp0 hf hs hl h
    have hplt : p < l.length := by omega
    obtain ⟨f, rfl⟩ : ∃ f, fuel = f + 1 := ⟨fuel - 1, by omega⟩
    have hget : l[p]? = some l[p] := List.getElem?_eq_getElem hplt
    have honly : ∀ i, i ∈ Region.ready .any l.toArray listed → i = p := by
      intro i hi
      obtain ⟨h0, o, ho, hedge⟩ := mem_ready.1 hi
      have hlt : i < l.length := by have := (Array.getElem?_eq_some_iff.1 ho).1; simpa using this
      have h1 : ¬ i < p := by
        rw [getD_lists hs hlt true false, hl i hlt] at h0
        simpa using h0
      rcases Nat.lt_or_ge p i with h2 | h2
      · obtain ⟨o', ho', e, he, h3, h4⟩ := dep_edge (tail2_next ht hlt (by omega))
        rw [show l[i]? = some o from by simpa using ho] at ho'
        obtain rfl := Option.some.inj ho'
        have := hedge e he h4
        rw [h3, hl (i - 1) (by omega)] at this
        have := of_decide_eq_true this
        omega
      · omega
    have hmem : p ∈ Region.ready .any l.toArray listed := by
      refine mem_ready.2 ⟨by rw [getD_lists hs hplt true false, hl p hplt]; simp, l[p], by simp [hget], fun e he hb => ?_⟩
      have h1 := List.all_eq_true.1 hok p (List.mem_range.2 hplt)
      simp only [hget, Bool.and_eq_true] at h1
      have h2 := List.all_eq_true.1 h1.1.2 e (Array.mem_toList_iff.2 he)
      rw [hb] at h2
      have h3 : e.on < p := blt_lt (by simpa using h2)
      rw [hl e.on (by omega)]; simpa using h3
    refine ⟨fun hr => (by rw [hr] at hmem; cases hmem), fun i hi => ?_⟩
    have := honly i hi
    subst this
    rw [List.drop_eq_getElem_cons hplt] at h
    unfold wpOp
    rw [show l.toArray[i]? = some l[i] from by simp [hget]]
    simp only
    unfold wpList at h
    have hnext : ∀ a' w', wpList P l.toArray Q (l.drop (i + 1)) a' w' → wpAny P .any l.toArray Q f (listed.setIfInBounds i true) a' w' := by
      intro a' w' h'
      refine ih (i + 1) f _ a' w' (by omega) (by omega) (by omega) (by omega) (by simpa using hs) ?_ h'
      intro j hj
      by_cases hij : i = j
      · subst hij
        rw [Array.getD_eq_getD_getElem?]; simp [hs, hj]
      · rw [getD_set_ne false hij, hl j hj]
        by_cases h1 : j < i
        · simp [h1]; omega
        · simp [h1]; omega
    split at h
    · rename_i hw
      rw [if_pos hw]
      exact h.imp (fun h => Oper.wp_mono (fun a' w' h' => hnext a' w' h') h) id
    · rename_i hw
      rw [if_neg hw]
      exact hnext _ _ h
def dpF (l : List Oper) (vs : Nat → Value) : List Nat → Fr
  | [] => []
  | j :: r => bif hasDst l j then (dstOf l j, vs j) :: dpF l vs r else dpF l vs r
theorem mem_dpF {l : List Oper} {vs : Nat → Value} {q : Nat × Value} : ∀ {deps : List Nat}, q ∈ dpF l vs deps → ∃ j, j ∈ deps ∧ hasDst l j = true ∧ q = (dstOf l j, vs j)
  | [], h => by cases h
  | j :: r, h => by
    unfold dpF at h
    cases hd : hasDst l j with
    | true =>
      rw [hd, cond_true, List.mem_cons] at h
      rcases h with h | h
      · exact ⟨j, by simp, hd, h⟩
      · obtain ⟨i, h1, h2, h3⟩ := mem_dpF h
        exact ⟨i, by simp [h1], h2, h3⟩
    | false =>
      rw [hd, cond_false] at h
      obtain ⟨i, h1, h2, h3⟩ := mem_dpF h
      exact ⟨i, by simp [h1], h2, h3⟩
theorem get_dpF {l : List Oper} {vs : Nat → Value} {f0 : Fr} : ∀ {pre : List Nat} {t : Nat} {u : Value}, (dpF l vs pre ++ f0).get t = some u → (∃ j, j ∈ pre ∧ hasDst l j = true ∧ dstOf l j = t ∧ vs j = u) ∨ f0.get t = some u
  | [], t, u, h => .inr h
  | j :: r, t, u, h => by
    have rest : (dpF l vs r ++ f0).get t = some u → (∃ i, i ∈ j :: r ∧ hasDst l i = true ∧ dstOf l i = t ∧ vs i = u) ∨ f0.get t = some u := by
      intro h
      rcases get_dpF (pre := r) h with ⟨i, hi, h1, h2⟩ | h1
      · exact .inl ⟨i, by simp [hi], h1, h2⟩
      · exact .inr h1
    unfold dpF at h
    cases hd : hasDst l j with
    | false => rw [hd, cond_false] at h; exact rest h
    | true =>
      rw [hd, cond_true] at h
      simp only [List.cons_append, Fr.get] at h
      by_cases e : Nat.beq (dstOf l j) t = true
      · rw [e] at h
        simp only [cond_true, Option.some.injEq] at h
        exact .inl ⟨j, by simp, hd, Nat.eq_of_beq_eq_true e, h⟩
      · have e' : Nat.beq (dstOf l j) t = false := eq_false_of_ne_true e
        rw [e'] at h
        exact rest h
def frPut (l : List Oper) (i : Nat) (v : Value) (f : Fr) : Fr := bif hasDst l i then (dstOf l i, v) :: f else f
theorem dpF_cons {l : List Oper} {vs : Nat → Value} {i : Nat} {r : List Nat} {f0 : Fr} : dpF l vs (i :: r) ++ f0 = frPut l i (vs i) (dpF l vs r ++ f0) := by
  unfold frPut
  simp only [dpF]
  cases hasDst l i <;> rfl
section
variable {l : List Oper} {p : Nat} {T : List Nat} {f0 : Fr}
def LkA (l : List Oper) (f0 : Fr) (pre : List Nat) (vs : Nat → Value) (i : Nat) (f1 : Fr) : Prop :=
  ∀ t u, f1.get t = some u → (∃ j, j ∈ pre ∧ depB l i j = true ∧ hasDst l j = true ∧ dstOf l j = t ∧ vs j = u) ∨ f0.get t = some u
theorem lkA_of {n : Nat} (hok : drawOk n l = true) (hpl : p ≤ l.length) {pre : List Nat} {vs : Nat → Value} {i : Nat} {f1 : Fr} (hpre : ∀ j, j ∈ pre → j < p) (hs : Fr.sub f1 (dpF l vs pre.reverse ++ f0)) (h : slotsOk l p i f1 = true) : LkA l f0 pre vs i f1 := by
  intro t u ht
  rcases get_dpF (sub_get hs t u ht) with ⟨j, hj, h0, h1, h2⟩ | h1
  · have hj' : j ∈ pre := by simpa using hj
    obtain ⟨q, hq, hq'⟩ := get_mem ht
    have h3 := List.all_eq_true.1 h q hq
    simp only [Bool.or_eq_true] at h3
    rcases h3 with h3 | h3
    · have h4 := List.all_eq_true.1 h3 j (List.mem_range.2 (hpre j hj'))
      rw [h0, hq'] at h4
      simp [h1] at h4
    · obtain ⟨j', hj1, h5⟩ := List.any_eq_true.1 h3
      simp only [Bool.and_eq_true, beq_iff_eq] at h5
      have hlt := List.mem_range.1 hj1
      have : j = j' := draw_distinct hok (Nat.lt_of_lt_of_le (hpre j hj') hpl) (Nat.lt_of_lt_of_le hlt hpl) h0 h5.2.1 (by rw [h1, h5.2.2, hq'])
      subst this
      exact .inl ⟨j, hj', h5.1, h0, h1, h2⟩
  · exact .inr h1
def RdOkA (P : Program) (n : Nat) (l : List Oper) (T : List Nat) (f0 : Fr) (pre : List Nat) (vs : Nat → Value) (w : World) (i : Nat) : Prop :=
  ∃ o f1, l[i]? = some o ∧ LkA l f0 pre vs i f1 ∧ ∀ w', Keep T w w' → PStep P n l.toArray o f1 w' (fun v' w'' => v' = vs i ∧ w'' = w')
theorem LkA.mono {pre pre' : List Nat} {vs vs' : Nat → Value} {i : Nat} {f1 : Fr} (h : LkA l f0 pre vs i f1) (hm : ∀ j, j ∈ pre → j ∈ pre' ∧ vs' j = vs j) : LkA l f0 pre' vs' i f1 := by
  intro t u ht
  rcases h t u ht with ⟨j, h1, h2, h3, h4, h5⟩ | h1
  · exact .inl ⟨j, (hm j h1).1, h2, h3, h4, by rw [(hm j h1).2, h5]⟩
  · exact .inr h1
theorem RdOkA.mono {pre pre' : List Nat} {vs vs' : Nat → Value} {w w' : World} {i : Nat} (h : RdOkA P n l T f0 pre vs w i) (hi : i ∈ pre) (hm : ∀ j, j ∈ pre → j ∈ pre' ∧ vs' j = vs j) (hk : Keep T w w') : RdOkA P n l T f0 pre' vs' w' i := by
  obtain ⟨o, f1, h1, h2, h3⟩ := h
  refine ⟨o, f1, h1, h2.mono hm, fun w2 hk2 => ?_⟩
  rw [(hm i hi).2]
  exact h3 w2 (hk.trans hk2)
theorem dpF_setV {vs : Nat → Value} {i : Nat} {v : Value} : ∀ {pre : List Nat}, i ∉ pre → dpF l (setV vs i v) pre = dpF l vs pre
  | [], _ => rfl
  | j :: r, h => by
    simp only [dpF]
    rw [setV_other vs v (fun e => h (by simp [e])), dpF_setV (pre := r) (fun hm => h (by simp [hm]))]
theorem kn_lkA {pre : List Nat} {vs : Nat → Value} {i : Nat} {f1 : Fr} {a : Act} (hk : Kn n f0 a) (hl : LkA l f0 pre vs i f1) (hd : ∀ j, depB l i j = true → j ∈ pre → hasDst l j = true → a.tmps.getD (dstOf l j) undef = vs j) : Kn n f1 a := by
  refine ⟨hk.size, hk.defers, fun t u ht => ?_⟩
  rcases hl t u ht with ⟨j, h1, h2, h3, h4, h5⟩ | h1
  · rw [← h4, ← h5]; exact hd j h2 h1 h3
  · exact hk.get t u h1
end
def planOkA (n : Nat) (l : List Oper) (p : Nat) (plan : List Nat) (cb : Nat → Bool) (fl : List Nat) : Bool :=
  drawOk n l && tailOk2 l p && plan.all (fun i => Nat.blt i p && (hasDst l i || cb i)) && (List.range p).all (fun i => plan.contains i || fl.contains i) && eager l cb plan && fl.all (fun i => Nat.blt i p && !plan.contains i)
def PA (P : Program) (n : Nat) (l : List Oper) (p : Nat) (T : List Nat) (s0 : Nat) (cb : Nat → Bool) (Fin : Fr → World → Prop) : List Nat → Fr → World → Prop
  | [], f, w => Fin f w
  | i :: r, f, w => ∃ o f1, l[i]? = some o ∧ Fr.sub f1 f ∧ slotsOk l p i f1 = true ∧
    ((cb i = true ∧ ∀ w1, Keep [] w w1 → PStep P n l.toArray o f1 w1 (fun v w' => Keep T w1 w' ∧ (∀ x, x ∈ cblk v → (x < s0 ∨ w1.heap.size ≤ x) ∧ x < w'.heap.size) ∧ PA P n l p T s0 cb Fin r (frPut l i v f) w')) ∨
     (cb i = false ∧ ∃ v, (∀ w', Keep T w w' → PStep P n l.toArray o f1 w' (fun v' w'' => v' = v ∧ w'' = w')) ∧ PA P n l p T s0 cb Fin r (frPut l i v f) w))
theorem PA.grow {l : List Oper} {p : Nat} {T : List Nat} {s0 : Nat} {cb : Nat → Bool} {Fin : Fr → World → Prop} (hF : ∀ f w w', Keep [] w w' → Fin f w → Fin f w') : ∀ (pl : List Nat) (f : Fr) (w w' : World), Keep [] w w' → PA P n l p T s0 cb Fin pl f w → PA P n l p T s0 cb Fin pl f w'
  | [], f, w, w', k, h => by unfold PA at *; exact hF _ _ _ k h
  | i :: r, f, w, w', k, h => by
    unfold PA at *
    obtain ⟨o, f1, h1, h2, h3, h4⟩ := h
    refine ⟨o, f1, h1, h2, h3, ?_⟩
    rcases h4 with ⟨hc, h4⟩ | ⟨hc, v, h5, h6⟩
    · exact .inl ⟨hc, fun w1 k1 => h4 w1 (k.trans k1)⟩
    · exact .inr ⟨hc, v, fun w1 k1 => h5 w1 (k.weak.trans k1), PA.grow hF r _ w w' k h6⟩
section
variable {l : List Oper} {p : Nat} {T : List Nat} {s0 : Nat} {cb : Nat → Bool} {Fin : Fr → World → Prop} {f0 : Fr}
theorem absorbA {n : Nat} (hok : drawOk n l = true) (hpl : p ≤ l.length) : ∀ (rest pre : List Nat) (vs : Nat → Value) (w : World), eager l cb (pre ++ rest) = true → (∀ j, j ∈ pre ++ rest → j < p ∧ (hasDst l j = true ∨ cb j = true)) → PA P n l p T s0 cb Fin rest (dpF l vs pre.reverse ++ f0) w →
    (∀ i, i ∈ pre → cb i = false → RdOkA P n l T f0 pre vs w i) → ∃ pre' rest' vs', pre ++ rest = pre' ++ rest' ∧ (∀ i, i ∈ pre → i ∈ pre' ∧ vs' i = vs i) ∧ (∀ i, i ∈ pre' → i ∈ pre ∨ cb i = false) ∧ (∀ c r, rest' = c :: r → cb c = true) ∧
      PA P n l p T s0 cb Fin rest' (dpF l vs' pre'.reverse ++ f0) w ∧ ∀ i, i ∈ pre' → cb i = false → RdOkA P n l T f0 pre' vs' w i
  | [], pre, vs, w, _, _, h, hr => ⟨pre, [], vs, rfl, fun i hi => ⟨hi, rfl⟩, fun i hi => .inl hi, (fun c r h => by cases h), h, hr⟩
  | i :: r, pre, vs, w, he, hb, h, hr => by
    have h0 := h
    unfold PA at h
    obtain ⟨o, f1, h1, h2, h3, h4⟩ := h
    rcases h4 with ⟨hc, _⟩ | ⟨hc, v, h5, h6⟩
    · exact ⟨pre, i :: r, vs, rfl, fun i hi => ⟨hi, rfl⟩, fun i hi => .inl hi, (fun c r h => by cases h; exact hc), h0, hr⟩
    · have hni : i ∉ pre := fun hm => (eager_split he).2 i hm (by simp)
      have hlk := lkA_of (f0 := f0) hok hpl (fun j hj => (hb j (by simp [hj])).1) h2 h3
      have hm : ∀ j, j ∈ pre → j ∈ pre ++ [i] ∧ setV vs i v j = vs j := fun j hj => ⟨by simp [hj], setV_other vs v (fun e => hni (e ▸ hj))⟩
      have hnr : i ∉ pre.reverse := by simpa using hni
      obtain ⟨pre', rest', vs', k1, k2, k3, k4, k5, k6⟩ := absorbA hok hpl r (pre ++ [i]) (setV vs i v) w (by simpa using he) (by simpa using hb)
        (by rw [List.reverse_append, List.reverse_singleton, List.singleton_append, dpF_cons, setV_same, dpF_setV hnr]; exact h6)
        (fun j hj hcj => by
          rcases List.mem_append.1 hj with h | h
          · exact (hr j h hcj).mono h hm (Keep.refl _ _)
          · rw [List.mem_singleton] at h
            subst h
            refine ⟨o, f1, h1, hlk.mono hm, fun w2 hk2 => ?_⟩
            rw [setV_same]; exact h5 w2 hk2)
      refine ⟨pre', rest', vs', by simpa using k1, fun j hj => ?_, fun j hj => ?_, k4, k5, k6⟩
      · obtain ⟨q1, q2⟩ := k2 j (hm j hj).1
        exact ⟨q1, q2.trans (hm j hj).2⟩
      · rcases k3 j hj with h | h
        · rcases List.mem_append.1 h with h | h
          · exact .inl h
          · rw [List.mem_singleton] at h; subst h; exact .inr hc
        · exact .inr h
end
variable {fin : Exit → Act → World → Prop} {k : List KI} {f : Fr} {w : World}
def FinA (P : Program) (fin : Exit → Act → World → Prop) (n : Nat) (k : List KI) (l : List Oper) (p s0 : Nat) (cs : List Nat) (fc : Fr) : List (Nat × TypeId × List Value) → List Nat → Fr → World → Prop
  | [], _, f, w => OW P fin n k l.toArray (l.drop p) f w
  | q :: r, seen, f, w => ∀ b, s0 ≤ b → b < w.heap.size → Bk w b q.2.1 q.2.2 → (∀ x, x ∈ seen → x ≠ b) → (∀ j, j ∈ cs → hasDst l j = true → ∀ v, fc.get (dstOf l j) = some v → ∀ x, x ∈ cblk v → x ≠ b) →
    FinA P fin n k l p s0 cs fc r (b :: seen) ((dstOf l q.1, .pointer (some ⟨b, 0, none⟩)) :: f) w
def flFr (l : List Oper) (bs : Nat → Nat) : List (Nat × TypeId × List Value) → Fr → Fr
  | [], f => f
  | q :: r, f => flFr l bs r ((dstOf l q.1, .pointer (some ⟨bs q.1, 0, none⟩)) :: f)
theorem FinA.use {l : List Oper} {p s0 : Nat} {cs : List Nat} {fc : Fr} {bs : Nat → Nat} : ∀ {fl : List (Nat × TypeId × List Value)} {seen : List Nat} {f : Fr} {w : World}, FinA P fin n k l p s0 cs fc fl seen f w →
    (∀ q, q ∈ fl → s0 ≤ bs q.1 ∧ bs q.1 < w.heap.size ∧ Bk w (bs q.1) q.2.1 q.2.2 ∧ (∀ j, j ∈ cs → hasDst l j = true → ∀ v, fc.get (dstOf l j) = some v → ∀ x, x ∈ cblk v → x ≠ bs q.1) ∧ (∀ x, x ∈ seen → x ≠ bs q.1)) →
    (fl.map (·.1)).Nodup → (∀ q q', q ∈ fl → q' ∈ fl → q.1 ≠ q'.1 → bs q.1 ≠ bs q'.1) → OW P fin n k l.toArray (l.drop p) (flFr l bs fl f) w
  | [], seen, f, w, h, _, _, _ => h
  | q :: r, seen, f, w, h, hq, hnd, hd => by
    obtain ⟨h1, h2, h3, h4, h5⟩ := hq q (by simp)
    have hnd' := List.nodup_cons.1 hnd
    refine FinA.use (fl := r) (f := (dstOf l q.1, .pointer (some ⟨bs q.1, 0, none⟩)) :: f) (h (bs q.1) h1 h2 h3 h5 h4) (fun q' hq' => ?_) hnd'.2 (fun a b ha hb => hd a b (by simp [ha]) (by simp [hb]))
    obtain ⟨g1, g2, g3, g4, g5⟩ := hq q' (by simp [hq'])
    refine ⟨g1, g2, g3, g4, fun x hx => ?_⟩
    rcases List.mem_cons.1 hx with rfl | hx
    · exact hd q q' (by simp) (by simp [hq']) (fun e => hnd'.1 (List.mem_map.2 ⟨q', hq', e.symm⟩))
    · exact g5 x hx
theorem nd_eq {q q' : Nat × TypeId × List Value} : ∀ {fl : List (Nat × TypeId × List Value)}, (fl.map (·.1)).Nodup → q ∈ fl → q' ∈ fl → q.1 = q'.1 → q' = q
  | [], _, h, _, _ => by cases h
  | a :: r, hn, h1, h2, he => by
    have hn' := List.nodup_cons.1 hn
    rcases List.mem_cons.1 h1 with e1 | h1 <;> rcases List.mem_cons.1 h2 with e2 | h2
    · rw [e1, e2]
    · exact absurd (List.mem_map.2 ⟨q', h2, by rw [← he, e1]⟩) hn'.1
    · exact absurd (List.mem_map.2 ⟨q, h1, by rw [he, e2]⟩) hn'.1
    · exact nd_eq hn'.2 h1 h2 he
theorem kn_flFr {l : List Oper} {bs : Nat → Nat} {a : Act} : ∀ {fl : List (Nat × TypeId × List Value)} {f : Fr}, Kn n f a → (∀ q, q ∈ fl → a.tmps.getD (dstOf l q.1) undef = .pointer (some ⟨bs q.1, 0, none⟩)) → Kn n (flFr l bs fl f) a
  | [], f, h, _ => h
  | q :: r, f, h, hq => by
    refine kn_flFr (fl := r) ?_ (fun q' hq' => hq q' (by simp [hq']))
    have := Kn.app (n := n) (g := [(dstOf l q.1, .pointer (some ⟨bs q.1, 0, none⟩))]) (f := f) (a := a) (fun p hp => by
      rw [List.mem_singleton] at hp; subst hp; exact hq q (by simp)) h
    exact this
def FlOk (P : Program) (l : List Oper) (q : Nat × TypeId × List Value) : Prop := ∃ d ty pos aft s by_, l[q.1]? = some ⟨some d, .alloc q.2.1, ty, pos, aft, none⟩ ∧ Ty P q.2.1 q.2.2 s by_
def setB (bs : Nat → Nat) (i b : Nat) : Nat → Nat := fun j => bif Nat.beq j i then b else bs j
theorem setB_same (bs : Nat → Nat) (i b : Nat) : setB bs i b i = b := by simp [setB]
theorem setB_other (bs : Nat → Nat) {i j : Nat} (b : Nat) (h : j ≠ i) : setB bs i b j = bs j := by
  unfold setB
  cases hb : Nat.beq j i with
  | false => rfl
  | true => exact absurd (Nat.eq_of_beq_eq_true hb) h
theorem tw_planA {id : Nat} {l : List Oper} (p : Nat) (plan : List Nat) (cs : List Nat) (T : List Nat) (fl : List (Nat × TypeId × List Value)) (hm : P.follows .mixedOrders = true) (f0 : Fr) (hf : Fr.sub f0 f) (hok : planOkA n l p plan (fun i => cs.contains i) (fl.map (·.1)) = true) (hnd : (fl.map (·.1)).Nodup) (hcs : cs.all (fun i => plan.contains i) = true) (hfl : ∀ q, q ∈ fl → FlOk P l q) (hT : ∀ x, x ∈ T → x < w.heap.size) (hfree0 : freeOk (l.take p) f0 = true)
    (h : ∀ w1, Keep [] w w1 → PA P n l p T w.heap.size (fun i => cs.contains i) (fun f' w' => ∀ w2, Keep [] w' w2 → FinA P fin n k l p w.heap.size cs f' fl [] f' w2) plan f0 w1) :
    TW P fin n (.c (.region id l.toArray true) :: k) f w := by
  intro a ha
  simp only [KQ]
  have ha0 := ha.sub hf
  simp only [planOkA, Bool.and_eq_true] at hok
  obtain ⟨⟨⟨⟨⟨hdr, ht⟩, hall⟩, hcov⟩, heag⟩, hfla⟩ := hok
  have hfl1 : ∀ q, q ∈ fl → q.1 < p ∧ q.1 ∉ plan := by
    intro q hq
    have := List.all_eq_true.1 hfla q.1 (List.mem_map.2 ⟨q, hq, rfl⟩)
    simp only [Bool.and_eq_true, Bool.not_eq_true'] at this
    exact ⟨blt_lt this.1, by simpa using this.2⟩
  have hcsp : ∀ j, j ∈ cs → j ∈ plan := by
    intro j hj
    have := List.all_eq_true.1 hcs j hj
    simpa using this
  have hpl : p ≤ l.length := by simp only [tailOk2, Bool.and_eq_true] at ht; exact Nat.le_of_ble_eq_true ht.1.1
  have hplan : ∀ j, j ∈ plan → j < p ∧ (hasDst l j = true ∨ cs.contains j = true) := by
    intro j hj
    have := List.all_eq_true.1 hall j hj
    simp only [Bool.and_eq_true, Bool.or_eq_true] at this
    exact ⟨blt_lt this.1, this.2⟩
  have hmem : ∀ j, j < p → j ∈ plan ∨ ∃ q, q ∈ fl ∧ q.1 = j := by
    intro j hj
    have := List.all_eq_true.1 hcov j (List.mem_range.2 hj)
    simp only [Bool.or_eq_true, List.contains_iff_mem, List.mem_map] at this
    exact this
  have hgrow : ∀ f' w1 w2, Keep [] w1 w2 → (∀ w3, Keep [] w1 w3 → FinA P fin n k l p w.heap.size cs f' fl [] f' w3) → (∀ w3, Keep [] w2 w3 → FinA P fin n k l p w.heap.size cs f' fl [] f' w3) := fun f' w1 w2 k1 h w3 k3 => h w3 (k1.trans k3)
  have hfree : ∀ i, i < p → hasDst l i = true → f0.get (dstOf l i) = none := by
    intro i hi hd
    have e1 : dstOf (l.take p) i = dstOf l i := by unfold dstOf; rw [List.getElem?_take, if_pos hi]
    have e2 : hasDst (l.take p) i = hasDst l i := by unfold hasDst; rw [List.getElem?_take, if_pos hi]
    rw [← e1]
    exact get_none_of_free (l := l.take p) (by rw [List.length_take]; omega) (by rw [e2]; exact hd) hfree0
  have hend : ∀ (listed : Array Bool) (a : Act) (w' : World), Kn n f0 a → (∀ i, i < p → listed.getD i false = true) → w.heap.size ≤ w'.heap.size →
      (∃ pre rest vs, ∃ bs : Nat → Nat, plan = pre ++ rest ∧ (∀ c r, rest = c :: r → cs.contains c = true) ∧ PA P n l p T w.heap.size (fun i => cs.contains i) (fun f' w' => ∀ w2, Keep [] w' w2 → FinA P fin n k l p w.heap.size cs f' fl [] f' w2) rest (dpF l vs pre.reverse ++ f0) w' ∧
        (∀ i, i ∈ pre → cs.contains i = false → RdOkA P n l T f0 pre vs w' i) ∧ (∀ i, i ∈ pre → cs.contains i = true → listed.getD i false = true) ∧ (∀ i, listed.getD i false = true → (∃ q, q ∈ fl ∧ q.1 = i) ∨ i ∈ pre ∧ (hasDst l i = true → a.tmps.getD (dstOf l i) undef = vs i)) ∧
        (∀ q, q ∈ fl → listed.getD q.1 false = true → a.tmps.getD (dstOf l q.1) undef = .pointer (some ⟨bs q.1, 0, none⟩) ∧ w.heap.size ≤ bs q.1 ∧ bs q.1 < w'.heap.size ∧ Bk w' (bs q.1) q.2.1 q.2.2 ∧ ∀ j, j ∈ pre → cs.contains j = true → ∀ x, x ∈ cblk (vs j) → x ≠ bs q.1) ∧
        (∀ j, j ∈ pre → cs.contains j = true → ∀ x, x ∈ cblk (vs j) → x < w'.heap.size) ∧
        (∀ q q', q ∈ fl → q' ∈ fl → listed.getD q.1 false = true → listed.getD q'.1 false = true → q.1 ≠ q'.1 → bs q.1 ≠ bs q'.1)) →
      wpList P l.toArray (KQ P fin k) (l.drop p) a w' := by
    intro listed a w' hk hlist hsz hst
    obtain ⟨pre, rest, vs, bs, h1, h2, h3, h4, h5, h6, h7, h8, h9⟩ := hst
    have hnf : ∀ c, c ∈ plan → ¬ ∃ q, q ∈ fl ∧ q.1 = c := fun c hc ⟨q, hq, he⟩ => (hfl1 q hq).2 (he ▸ hc)
    have hrest : rest = [] := by
      cases rest with
      | nil => rfl
      | cons c r =>
        exfalso
        have hcp : c ∈ plan := by rw [h1]; simp
        have hc := hplan c hcp
        rcases h6 c (hlist c hc.1) with h | h
        · exact hnf c hcp h
        · exact (eager_split (pre := pre) (h1 ▸ heag)).2 c h.1 (by simp)
    subst hrest
    have hF := h3
    unfold PA at hF
    have hpre : ∀ j, j ∈ pre → j ∈ plan := fun j hj => by rw [h1]; simp [hj]
    have hkF : Kn n (dpF l vs pre.reverse ++ f0) a := Kn.app (by
      intro q hq
      obtain ⟨j, hj, hjd, rfl⟩ := mem_dpF hq
      have hj' : j ∈ pre := by simpa using hj
      rcases h6 j (hlist j (hplan j (hpre j hj')).1) with h | h
      · exact absurd h (hnf j (hpre j hj'))
      · exact h.2 hjd) hk
    refine FinA.use (bs := bs) (hF w' (Keep.refl _ _)) (fun q hq => ?_) hnd (fun q q' hq hq' hne => h9 q q' hq hq' (hlist _ (hfl1 q hq).1) (hlist _ (hfl1 q' hq').1) hne) a (kn_flFr hkF (fun q hq => (h7 q hq (hlist _ (hfl1 q hq).1)).1))
    obtain ⟨_, g2, g3, g4, g5⟩ := h7 q hq (hlist _ (hfl1 q hq).1)
    refine ⟨g2, g3, g4, fun j hj hjd v hv x hx => ?_, fun x hx => by cases hx⟩
    have hjp := hcsp j hj
    rcases get_dpF hv with ⟨j', hj', e0, e1, e2⟩ | e1
    · have hj2 : j' ∈ pre := by simpa using hj'
      have : j' = j := draw_distinct hdr (Nat.lt_of_lt_of_le (hplan j' (hpre j' hj2)).1 hpl) (Nat.lt_of_lt_of_le (hplan j hjp).1 hpl) e0 hjd e1
      subst this; subst e2
      exact g5 j' hj2 (by simpa using hj) x hx
    · rw [hfree j (hplan j hjp).1 hjd] at e1; cases e1
  refine wp_region_any hm ?_
  have key : ∀ (fuel : Nat) (listed : Array Bool) (a : Act) (w' : World), listed.size = l.length → left l.length listed ≤ fuel → Kn n f0 a → (∀ i, p ≤ i → i < l.length → listed.getD i false = false) → (∀ i, listed.getD i false = true → i < p) →
      (∀ i j, listed.getD i false = true → depB l i j = true → listed.getD j false = true) → w.heap.size ≤ w'.heap.size →
      (∃ pre rest vs, ∃ bs : Nat → Nat, plan = pre ++ rest ∧ (∀ c r, rest = c :: r → cs.contains c = true) ∧ PA P n l p T w.heap.size (fun i => cs.contains i) (fun f' w' => ∀ w2, Keep [] w' w2 → FinA P fin n k l p w.heap.size cs f' fl [] f' w2) rest (dpF l vs pre.reverse ++ f0) w' ∧
        (∀ i, i ∈ pre → cs.contains i = false → RdOkA P n l T f0 pre vs w' i) ∧ (∀ i, i ∈ pre → cs.contains i = true → listed.getD i false = true) ∧ (∀ i, listed.getD i false = true → (∃ q, q ∈ fl ∧ q.1 = i) ∨ i ∈ pre ∧ (hasDst l i = true → a.tmps.getD (dstOf l i) undef = vs i)) ∧
        (∀ q, q ∈ fl → listed.getD q.1 false = true → a.tmps.getD (dstOf l q.1) undef = .pointer (some ⟨bs q.1, 0, none⟩) ∧ w.heap.size ≤ bs q.1 ∧ bs q.1 < w'.heap.size ∧ Bk w' (bs q.1) q.2.1 q.2.2 ∧ ∀ j, j ∈ pre → cs.contains j = true → ∀ x, x ∈ cblk (vs j) → x ≠ bs q.1) ∧
        (∀ j, j ∈ pre → cs.contains j = true → ∀ x, x ∈ cblk (vs j) → x < w'.heap.size) ∧
        (∀ q q', q ∈ fl → q' ∈ fl → listed.getD q.1 false = true → listed.getD q'.1 false = true → q.1 ≠ q'.1 → bs q.1 ≠ bs q'.1)) →
      wpAny P .any l.toArray (KQ P fin k) fuel listed a w' := by
    intro fuel
    induction fuel with
    | zero =>
      intro listed a w' hs hle hk hun hlp hcl hsz hst
      have hlist : ∀ i, i < l.length → listed.getD i false = true := by
        intro i hi
        cases hc : listed.getD i false with
        | true => rfl
        | false =>
          exfalso
          have := left_set hi hs (by rw [getD_lists hs hi true false]; exact hc)
          omega
      have hpe : p = l.length := by
        rcases Nat.lt_or_ge p l.length with h1 | h1
        · have := hun p (Nat.le_refl _) h1; rw [hlist p h1] at this; cases this
        · omega
      refine wpAny_tail2 hdr ht 0 p 0 listed a w' (by omega) hpl (Nat.le_refl _) (Nat.le_refl _) hs (fun i hi => by rw [hlist i hi]; simp; omega) ?_
      exact hend listed a w' hk (fun i hi => hlist i (by omega)) hsz hst
    | succ fuel ih =>
      intro listed a w' hs hle hk hun hlp hcl hsz hst
      by_cases hfull : ∀ i, i < p → listed.getD i false = true
      · refine wpAny_tail2 hdr ht (l.length - p) p (fuel + 1) listed a w' rfl hpl (Nat.le_refl _) ?_ hs (fun i hi => ?_) (hend listed a w' hk hfull hsz hst)
        · refine Nat.le_trans ?_ hle
          unfold left
          have e1 : l.length - p = ((List.range' p (l.length - p)).countP fun i => !listed.getD i true) := by
            rw [List.countP_eq_length.2 (fun i hi => ?_)]
            · simp
            · rw [List.mem_range'_1] at hi
              rw [getD_lists hs (by omega) true false, hun i (by omega) (by omega)]; rfl
          rw [e1]
          have e2 : List.range l.length = List.range p ++ List.range' p (l.length - p) := by
            have e3 := List.range'_append_1 (s := 0) (m := p) (n := l.length - p)
            rw [Nat.zero_add] at e3
            rw [List.range_eq_range', List.range_eq_range', e3]; congr 1; omega
          rw [e2, List.countP_append]; omega
        · by_cases hip : i < p
          · rw [hfull i hip]; simp [hip]
          · rw [hun i (by omega) hi]; simp [hip]
      · obtain ⟨pre, rest, vs, bs, h1, h2, h3, h4, h5, h6, h7, h8, h9⟩ := hst
        have hnf : ∀ c, c ∈ plan → ¬ ∃ q, q ∈ fl ∧ q.1 = c := fun c hc ⟨q, hq, he⟩ => (hfl1 q hq).2 (he ▸ hc)
        obtain ⟨q, hq⟩ := Classical.not_forall.1 hfull
        obtain ⟨hq1, hq2⟩ := Classical.not_imp.1 hq
        have hq2 : listed.getD q false = false := eq_false_of_ne_true hq2
        refine ⟨fun hr => (by
          have := all_listed hdr rfl hs hr q (by omega)
          rw [hq2] at this; cases this), fun i hi => ?_⟩
        obtain ⟨h0, o, ho, hedge⟩ := mem_ready.1 hi
        have ho' : l[i]? = some o := by simpa using ho
        have hlt : i < l.length := (List.getElem?_eq_some_iff.1 ho').1
        have hdepl : ∀ j, depB l i j = true → listed.getD j false = true := by
          intro j hj
          simp only [depB, ho'] at hj
          obtain ⟨e, he, h7⟩ := List.any_eq_true.1 hj
          simp only [Bool.and_eq_true, beq_iff_eq] at h7
          have := hedge e (Array.mem_toList_iff.1 he) h7.2
          rwa [h7.1] at this
        have hip : i < p := by
          rcases Nat.lt_or_ge i p with h7 | h7
          · exact h7
          · exfalso
            rcases Nat.lt_or_ge p i with h8 | h8
            · have := hdepl _ (tail2_next ht hlt h8)
              rw [hun (i - 1) (by omega) (by omega)] at this; cases this
            · have hpi : i = p := by omega
              have := tail2_all (S := fun j => listed.getD j false = true) ht (by omega) (fun m j hm hd => hm.elim (fun e => hdepl j (by rw [hpi, ← e]; exact hd)) (fun hl => hcl m j hl hd)) _ q hq1 rfl
              rw [hq2] at this; cases this
        have hil : listed.getD i false = false := by rw [getD_lists hs hlt false true]; exact h0
        have hidn : ∀ d, o.dst = some d → hasDst l i = true ∧ dstOf l i = d ∧ d < n := by
          intro d hd
          have hdd : dstOf l i = d := by simp [dstOf, ho', hd]
          refine ⟨by simp [hasDst, ho', hd], hdd, ?_⟩
          have h8 := List.all_eq_true.1 hdr i (List.mem_range.2 hlt)
          simp only [ho', Bool.and_eq_true] at h8
          rw [hdd] at h8
          exact blt_lt h8.1.1
        have hids : hasDst l i = true → ∃ d, o.dst = some d := by
          intro hid
          unfold hasDst at hid; rw [ho'] at hid
          cases hd : o.dst with
          | none => rw [Option.bind_some, hd] at hid; cases hid
          | some d => exact ⟨d, rfl⟩
        have hleft := left_set hlt hs h0
        have hun' : ∀ j, p ≤ j → j < l.length → (listed.setIfInBounds i true).getD j false = false := fun j h1 h2 => by rw [getD_set_ne false (by omega)]; exact hun j h1 h2
        have hlp' : ∀ j, (listed.setIfInBounds i true).getD j false = true → j < p := by
          intro j hj
          by_cases hij : i = j
          · subst hij; exact hip
          · rw [getD_set_ne false hij] at hj; exact hlp j hj
        have hcl' : ∀ m j, (listed.setIfInBounds i true).getD m false = true → depB l m j = true → (listed.setIfInBounds i true).getD j false = true := by
          intro m j hm hd
          have hj : listed.getD j false = true := by
            by_cases him : i = m
            · exact hdepl j (him ▸ hd)
            · rw [getD_set_ne false him] at hm; exact hcl m j hm hd
          by_cases hij : i = j
          · subst hij; rw [hil] at hj; cases hj
          · rw [getD_set_ne false hij]; exact hj
        have hput : ∀ v, hasDst l i = true → (a.put o.dst v).tmps.getD (dstOf l i) undef = v := by
          intro v hid
          obtain ⟨d, hod⟩ := hids hid
          obtain ⟨_, hdd, hdn⟩ := hidn d hod
          rw [hdd, hod]; simp [Act.put, Array.getD_eq_getD_getElem?, hk.size, hdn]
        have hputo : ∀ v j, j < p → hasDst l j = true → i ≠ j → (a.put o.dst v).tmps.getD (dstOf l j) undef = a.tmps.getD (dstOf l j) undef := by
          intro v j hj hdj hij
          cases hod : o.dst with
          | none => rfl
          | some d =>
            obtain ⟨hid, hdd, hdn⟩ := hidn d hod
            have hne : d ≠ dstOf l j := fun e => hij (draw_distinct hdr hlt (by omega) hid hdj (by rw [hdd, e]))
            simp only [Act.put, Array.getD_eq_getD_getElem?]; rw [Array.getElem?_setIfInBounds_ne hne]
        have hkput : ∀ v, Kn n f0 (a.put o.dst v) := by
          intro v
          cases hod : o.dst with
          | none => exact hk
          | some d =>
            obtain ⟨hid, hdd, hdn⟩ := hidn d hod
            exact hk.putOther (by rw [← hdd]; exact hfree i hip hid) v
        have hpre : ∀ j, j ∈ pre → j ∈ plan := fun j hj => by rw [h1]; simp [hj]
        have hpredep : ∀ j, depB l i j = true → j ∈ pre → hasDst l j = true → a.tmps.getD (dstOf l j) undef = vs j := fun j hj hjp hjd => (h6 j (hdepl j hj)).elim (fun h => absurd h (hnf j (hpre j hjp))) (fun h => h.2 hjd)
        have hfd : ∀ q, q ∈ fl → hasDst l q.1 = true := by
          intro q hq
          obtain ⟨d, ty, pos, aft, s, by_, hg, _⟩ := hfl q hq
          unfold hasDst; rw [hg]; rfl
        have step : ∀ f1, Kn n f1 a → ∀ R : Value → World → Prop, PStep P n l.toArray o f1 w' R → (∀ v w2, R v w2 → wpAny P .any l.toArray (KQ P fin k) fuel (listed.setIfInBounds i true) (a.put o.dst v) w2) → wpOp P l.toArray (KQ P fin k) i (wpAny P .any l.toArray (KQ P fin k) fuel (listed.setIfInBounds i true)) a w' := by
          intro f1 hkf R hp hn
          obtain ⟨p1, p2⟩ := hp a hkf (wpAny P .any l.toArray (KQ P fin k) fuel (listed.setIfInBounds i true)) (KQ P fin k) hn
          unfold wpOp
          rw [ho]
          simp only
          by_cases hw : Region.wanted o (yielded l.toArray a.tmps) = true
          · rw [if_pos hw]; exact .inl (p1 hw)
          · rw [if_neg hw]; exact p2 (eq_false_of_ne_true hw)
        rcases hmem i hip with hpl1 | ⟨q, hqf, hqi⟩
        · have hpm := hpl1
          rw [h1] at hpm
          have hifl : ∀ q, q ∈ fl → i ≠ q.1 := fun q hq e => hnf i hpl1 ⟨q, hq, e.symm⟩
          rcases List.mem_append.1 hpm with hpre1 | hrs
          · have hcb : cs.contains i = false := by
              cases hc : cs.contains i with
              | false => rfl
              | true => have := h5 i hpre1 hc; rw [hil] at this; cases this
            obtain ⟨o2, f1, g1, g2, g3⟩ := h4 i hpre1 hcb
            rw [ho'] at g1
            simp only [Option.some.injEq] at g1
            subst g1
            refine step f1 (kn_lkA hk g2 hpredep) _ (g3 w' (Keep.refl _ _)) ?_
            rintro v w2 ⟨rfl, rfl⟩
            refine ih _ _ _ (by simpa using hs) (by omega) (hkput _) hun' hlp' hcl' hsz ⟨pre, rest, vs, bs, h1, h2, h3, h4, fun j hj hc => ?_, fun j hj => ?_, fun q hq hlq => ?_, h8, fun q q' hq hq' hl1 hl2 => ?_⟩
            · by_cases hij : i = j
              · subst hij; rw [hcb] at hc; cases hc
              · rw [getD_set_ne false hij]; exact h5 j hj hc
            · by_cases hij : i = j
              · subst hij; exact .inr ⟨hpre1, hput _⟩
              · rw [getD_set_ne false hij] at hj
                rcases h6 j hj with h | ⟨m1, m2⟩
                · exact .inl h
                · have hpj := hplan j (hpre j m1)
                  exact .inr ⟨m1, fun hjd => by rw [hputo _ j hpj.1 hjd hij]; exact m2 hjd⟩
            · rw [getD_set_ne false (hifl q hq)] at hlq
              obtain ⟨m1, m2⟩ := h7 q hq hlq
              exact ⟨by rw [hputo _ q.1 (hfl1 q hq).1 (hfd q hq) (hifl q hq)]; exact m1, m2⟩
            · rw [getD_set_ne false (hifl q hq)] at hl1
              rw [getD_set_ne false (hifl q' hq')] at hl2
              exact h9 q q' hq hq' hl1 hl2
          · cases rest with
            | nil => cases hrs
            | cons c r =>
              have hcc := h2 c r rfl
              rw [h1] at heag
              obtain ⟨he1, he2⟩ := eager_split heag
              rcases List.mem_cons.1 hrs with hic | hir
              · subst hic
                have h30 := h3
                unfold PA at h30
                obtain ⟨o2, f1, g1, g2, g3, g4⟩ := h30
                rw [ho'] at g1
                simp only [Option.some.injEq] at g1
                subst g1
                rcases g4 with ⟨_, g4⟩ | ⟨g4, _⟩
                · have hlk := lkA_of (f0 := f0) hdr hpl (fun j hj => (hplan j (hpre j hj)).1) g2 g3
                  refine step f1 (kn_lkA hk hlk hpredep) _ (g4 w' (Keep.refl _ _)) ?_
                  rintro v w2 ⟨hkw, hcv, hpw⟩
                  have hni : i ∉ pre := fun hm => he2 i hm (by simp)
                  have hnr : i ∉ pre.reverse := by simpa using hni
                  have hmm : ∀ j, j ∈ pre → j ∈ pre ++ [i] ∧ setV vs i v j = vs j := fun j hj => ⟨by simp [hj], setV_other vs v (fun e => hni (e ▸ hj))⟩
                  obtain ⟨pre', rest', vs', k1, k2, k3, k4, k5, k6⟩ := absorbA (f0 := f0) (T := T) (s0 := w.heap.size) (cb := fun i => cs.contains i) hdr hpl r (pre ++ [i]) (setV vs i v) w2 (by rw [List.append_assoc, List.singleton_append]; exact heag) (by rw [List.append_assoc, List.singleton_append, ← h1]; exact hplan)
                    (by rw [List.reverse_append, List.reverse_singleton, List.singleton_append, dpF_cons, setV_same, dpF_setV hnr]; exact hpw)
                    (fun j hj hcj => by
                      rcases List.mem_append.1 hj with h | h
                      · exact (h4 j h hcj).mono h hmm hkw
                      · rw [List.mem_singleton] at h
                        subst h; rw [hcc] at hcj; cases hcj)
                  have hsame : ∀ j, j ∈ pre → j ∈ pre' ∧ vs' j = vs j := fun j hj => ⟨(k2 j (hmm j hj).1).1, ((k2 j (hmm j hj).1).2).trans (hmm j hj).2⟩
                  have hci := k2 i (by simp)
                  rw [setV_same] at hci
                  have hcall : ∀ j, j ∈ pre' → cs.contains j = true → j ∈ pre ∧ vs' j = vs j ∨ j = i := by
                    intro j hj hc
                    rcases k3 j hj with h | h
                    · rcases List.mem_append.1 h with h | h
                      · exact .inl ⟨h, (hsame j h).2⟩
                      · rw [List.mem_singleton] at h; exact .inr h
                    · rw [hc] at h; cases h
                  refine ih _ _ _ (by simpa using hs) (by omega) (hkput _) hun' hlp' hcl' (Nat.le_trans hsz hkw.size) ⟨pre', rest', vs', bs, by rw [← k1, h1]; simp, k4, k5, k6, fun j hj hc => ?_, fun j hj => ?_, fun q hq hlq => ?_, fun j hj hc x hx => ?_, fun q q' hq hq' hl1 hl2 => ?_⟩
                  · by_cases hij : i = j
                    · subst hij
                      rw [Array.getD_eq_getD_getElem?]; simp [hs, hlt]
                    · rw [getD_set_ne false hij]
                      rcases hcall j hj hc with h | h
                      · exact h5 j h.1 hc
                      · exact absurd h.symm hij
                  · by_cases hij : i = j
                    · subst hij; exact .inr ⟨hci.1, fun hid => by rw [hput _ hid, hci.2]⟩
                    · rw [getD_set_ne false hij] at hj
                      rcases h6 j hj with h | ⟨m1, m2⟩
                      · exact .inl h
                      · have hpj := hplan j (hpre j m1)
                        exact .inr ⟨(hsame j m1).1, fun hjd => by rw [hputo _ j hpj.1 hjd hij, (hsame j m1).2]; exact m2 hjd⟩
                  · rw [getD_set_ne false (hifl q hq)] at hlq
                    obtain ⟨m1, m2, m3, m4, m5⟩ := h7 q hq hlq
                    refine ⟨by rw [hputo _ q.1 (hfl1 q hq).1 (hfd q hq) (hifl q hq)]; exact m1, m2, Nat.lt_of_lt_of_le m3 hkw.size, m4.keep hkw (fun hm => by have := hT _ hm; omega), fun j hj hc x hx => ?_⟩
                    rcases hcall j hj hc with ⟨h, e⟩ | h
                    · rw [e] at hx; exact m5 j h hc x hx
                    · subst h
                      rw [hci.2] at hx
                      have := (hcv x hx).1
                      intro e; omega
                  · rcases hcall j hj hc with ⟨h, e⟩ | h
                    · rw [e] at hx; exact Nat.lt_of_lt_of_le (h8 j h hc x hx) hkw.size
                    · subst h
                      rw [hci.2] at hx
                      exact (hcv x hx).2
                  · rw [getD_set_ne false (hifl q hq)] at hl1
                    rw [getD_set_ne false (hifl q' hq')] at hl2
                    exact h9 q q' hq hq' hl1 hl2
                · rw [hcc] at g4; cases g4
              · exfalso
                simp only [eager, Bool.and_eq_true] at he1
                have h7 := he1.1.2
                rw [hcc, Bool.not_true, Bool.false_or] at h7
                have h8 := List.all_eq_true.1 h7 i hir
                obtain ⟨j, hj, hdj⟩ := List.any_eq_true.1 h8
                have hjp : j ∈ plan := by rw [h1]; exact List.mem_append_right _ hj
                rcases h6 j (hdepl j hdj) with h | h
                · exact hnf j hjp h
                · exact he2 j h.1 hj
        · subst hqi
          obtain ⟨d', ty, pos, aft, s, by_, hg, hTy⟩ := hfl q hqf
          rw [hg] at ho'
          simp only [Option.some.injEq] at ho'
          have hnp : q.1 ∉ pre := fun hm => (hfl1 q hqf).2 (hpre _ hm)
          refine step [] ⟨hk.size, hk.defers, fun t v h => by cases h⟩ (fun v' w2 => ∃ b, v' = .pointer (some ⟨b, 0, none⟩) ∧ b = w'.heap.size ∧ Bk w2 b q.2.1 q.2.2 ∧ Keep [] w' w2 ∧ w2.heap.size = w'.heap.size + 1) ?_ ?_
          · subst ho'
            intro a1 ha1 K Q hK
            refine ⟨fun _ => d_alloc (n := n) (f := []) hTy a1 ha1 _ _ _ _ K Q hK, fun h => by simp [Region.wanted] at h⟩
          · rintro v w2 ⟨b, rfl, rfl, hb, hkb, hsb⟩
            have hqne : ∀ q', q' ∈ fl → q'.1 ≠ q.1 → q.1 ≠ q'.1 := fun q' _ h e => h e.symm
            refine ih _ _ _ (by simpa using hs) (by omega) (hkput _) hun' hlp' hcl' (by omega) ⟨pre, rest, vs, setB bs q.1 w'.heap.size, h1, h2, PA.grow hgrow _ _ _ _ hkb h3, fun j hj hc => (h4 j hj hc).mono hj (fun j hj => ⟨hj, rfl⟩) hkb.weak, fun j hj hc => ?_, fun j hj => ?_, fun q' hq' hlq => ?_, fun j hj hc x hx => by have := h8 j hj hc x hx; omega, fun q1 q2 hq1 hq2 hl1 hl2 hne => ?_⟩
            · rw [getD_set_ne false (fun e => hnp (by rw [e]; exact hj))]; exact h5 j hj hc
            · by_cases hij : q.1 = j
              · exact .inl ⟨q, hqf, hij⟩
              · rw [getD_set_ne false hij] at hj
                rcases h6 j hj with h | ⟨m1, m2⟩
                · exact .inl h
                · have hpj := hplan j (hpre j m1)
                  exact .inr ⟨m1, fun hjd => by rw [hputo _ j hpj.1 hjd hij]; exact m2 hjd⟩
            · by_cases hqq : q.1 = q'.1
              · have hqe : q' = q := nd_eq hnd hqf hq' hqq
                subst hqe
                refine ⟨by rw [hput _ (hfd q' hqf), setB_same], by rw [setB_same]; omega, by rw [setB_same]; omega, by rw [setB_same]; exact hb, fun j hj hc x hx => ?_⟩
                rw [setB_same]
                have := h8 j hj hc x hx
                omega
              · rw [getD_set_ne false hqq] at hlq
                obtain ⟨m1, m2, m3, m4, m5⟩ := h7 q' hq' hlq
                rw [setB_other bs _ (Ne.symm hqq)]
                exact ⟨by rw [hputo _ q'.1 (hfl1 q' hq').1 (hfd q' hq') hqq]; exact m1, m2, by omega, m4.keep0 hkb, m5⟩
            · by_cases e1 : q.1 = q1.1
              · have e2 : q.1 ≠ q2.1 := fun e => hne (e1.symm.trans e)
                rw [getD_set_ne false e2] at hl2
                rw [← e1, setB_same, setB_other bs _ (Ne.symm e2)]
                have := (h7 q2 hq2 hl2).2.2.1
                omega
              · rw [getD_set_ne false e1] at hl1
                rw [setB_other bs _ (Ne.symm e1)]
                by_cases e2 : q.1 = q2.1
                · rw [← e2, setB_same]
                  have := (h7 q1 hq1 hl1).2.2.1
                  omega
                · rw [getD_set_ne false e2] at hl2
                  rw [setB_other bs _ (Ne.symm e2)]
                  exact h9 q1 q2 hq1 hq2 hl1 hl2 hne
  obtain ⟨pre', rest', vs', k1, k2, k3, k4, k5, k6⟩ := absorbA (f0 := f0) (T := T) (s0 := w.heap.size) (cb := fun i => cs.contains i) hdr hpl plan [] (fun _ => undef) _ heag hplan (h _ (keep_drew w)) (fun i hi => by cases hi)
  have hemp : ∀ i, ¬ (Array.replicate l.toArray.size false).getD i false = true := by
    intro i hi
    rw [Array.getD_eq_getD_getElem?] at hi
    rcases Nat.lt_or_ge i l.toArray.size with h' | h'
    · rw [Array.getElem?_eq_getElem (by simpa using h')] at hi; simp at hi
    · rw [Array.getElem?_eq_none (by simpa using h')] at hi; simp at hi
  refine key _ _ a _ (by simp) ?_ ha0 ?_ (fun i hi => absurd hi (hemp i)) (fun i _ hi => absurd hi (hemp i)) (Nat.le_refl _) ⟨pre', rest', vs', fun _ => 0, k1, k4, k5, k6, fun i hi hc => ?_, fun i hi => absurd hi (hemp i), fun q _ hq => absurd hq (hemp _), fun j hj hc => ?_, fun q q' _ _ hq => absurd hq (hemp _)⟩
  · unfold left
    have := List.countP_le_length (p := fun i => !(Array.replicate l.toArray.size false).getD i true) (l := List.range l.length)
    simpa using this
  · intro i _ hi
    rw [Array.getD_eq_getD_getElem?, Array.getElem?_eq_getElem (by simpa using hi)]; simp
  · rcases k3 i hi with h | h
    · cases h
    · rw [hc] at h; cases h
  · rcases k3 j hj with h | h
    · cases h
    · rw [hc] at h; cases h
end
end Go.Eng
namespace Go.Eng
open Go Go.IntWalk
section
variable {P : Program} {n : Nat} {f : Fr} {w : World} {ty : TypeId} {fin : Exit → Act → World → Prop} {k : List KI} {l : List Oper} {p s0 : Nat} {T cs r : List Nat} {Fin : Fr → World → Prop} {i : Nat}
theorem pa_nil {fl : List (Nat × TypeId × List Value)} (h : ∀ w2, Keep [] w w2 → FinA P fin n k l p s0 cs f fl [] f w2) : PA P n l p T s0 (fun i => cs.contains i) (fun f' w' => ∀ w2, Keep [] w' w2 → FinA P fin n k l p s0 cs f' fl [] f' w2) [] f w := by unfold PA; exact h
theorem fina_nil {fc : Fr} {seen : List Nat} (h : OW P fin n k l.toArray (l.drop p) f w) : FinA P fin n k l p s0 cs fc [] seen f w := h
theorem frPut_at {d : Nat} {op : Op} {pos : String} {aft : Array Edge} {g : Option (Nat × Bool)} {v : Value} {f : Fr} (ho : l[i]? = some ⟨some d, op, ty, pos, aft, g⟩) : frPut l i v f = (d, v) :: f := by
  unfold frPut hasDst; rw [ho, dstOf_at ho]; rfl
theorem pa_g (f1 : Fr) {op : Op} {d : Nat} {pos : String} {aft : Array Edge} {v : Value} (ho : l[i]? = some ⟨some d, op, ty, pos, aft, none⟩) (hc : cs.contains i = false) (hs : Fr.sub f1 f) (hk : slotsOk l p i f1 = true)
    (hr : ∀ w', Keep T w w' → Gives P n f1 w' op ty v w') (h : PA P n l p T s0 (fun i => cs.contains i) Fin r ((d, v) :: f) w) : PA P n l p T s0 (fun i => cs.contains i) Fin (i :: r) f w := by
  unfold PA
  exact ⟨_, f1, ho, hs, hk, .inr ⟨hc, v, fun w' hw => pstep_g (hr w' hw), by rw [frPut_at ho]; exact h⟩⟩
theorem pa_d (f1 : Fr) {op : Op} {d : Nat} {pos : String} {aft : Array Edge} (ho : l[i]? = some ⟨some d, op, ty, pos, aft, none⟩) (hc : cs.contains i = true) (hs : Fr.sub f1 f) (hk : slotsOk l p i f1 = true)
    (hr : ∀ w1, Keep [] w w1 → Does P n f1 w1 op ty (fun v w' => Keep T w1 w' ∧ (∀ x, x ∈ cblk v → (x < s0 ∨ w1.heap.size ≤ x) ∧ x < w'.heap.size) ∧ PA P n l p T s0 (fun i => cs.contains i) Fin r ((d, v) :: f) w')) : PA P n l p T s0 (fun i => cs.contains i) Fin (i :: r) f w := by
  unfold PA
  refine ⟨_, f1, ho, hs, hk, .inl ⟨hc, fun w1 k1 a ha K Q hK => ⟨fun _ => ?_, fun h => by simp [Region.wanted] at h⟩⟩⟩
  exact hr w1 k1 a ha _ _ _ _ _ _ (fun v w' hv => hK _ _ ⟨hv.1, hv.2.1, by rw [frPut_at ho]; exact hv.2.2⟩)
end
end Go.Eng
namespace Go.Eng
open Go Go.IntWalk
section
variable {P : Program} {n : Nat} {f : Fr} {w : World} {ty : TypeId} {fin : Exit → Act → World → Prop} {k : List KI}
section
variable {l : List Oper} {p s0 i : Nat} {T cs r : List Nat} {Fin : Fr → World → Prop}
end
end
end Go.Eng
namespace Go.Eng
open Go Go.IntWalk
section
variable {P : Program} {fin : Exit → Act → World → Prop} {n : Nat} {k : List KI} {f : Fr} {w : World} {ty : TypeId}
theorem grdT {ops : Array Oper} {j d : Nat} {oj : Oper} {b want : Bool} (hj : ops[j]? = some oj) (hd : oj.dst = some d) (hf : f.get d = some (.bool b)) (hb : b = want) : Grd n ops f j want true := grd1 hj hd hf (by subst hb; cases b <;> rfl)
theorem ow_dy {ops : Array Oper} {l : List Oper} {op : Op} {d : Nat} {pos : String} {aft : Array Edge} {j : Nat} {want : Bool} {R : Value → World → Prop} (hG : Grd n ops f j want true) (hr : Does P n f w op ty R) (hd : Nat.blt d n = true)
    (h : ∀ v w', R v w' → OW P fin n k ops l ((d, v) :: f) w') : OW P fin n k ops (⟨some d, op, ty, pos, aft, some (j, want)⟩ :: l) f w := by
  intro a ha
  refine wpList_step fun K hK => ?_
  have hwt : Region.wanted ⟨some d, op, ty, pos, aft, some (j, want)⟩ (yielded ops a.tmps) = true := hG a ha
  rw [hwt, if_pos rfl]
  exact hr a ha _ _ _ _ _ _ (fun v w' hv => hK _ _ (h v w' hv _ (ha.put (blt_lt hd) v)))
section
variable {l : List Oper} {p s0 i : Nat} {T cs r : List Nat} {Fin : Fr → World → Prop}
theorem pa_gt (f1 : Fr) {op : Op} {d : Nat} {pos : String} {aft : Array Edge} {j : Nat} {want : Bool} {v : Value} (ho : l[i]? = some ⟨some d, op, ty, pos, aft, some (j, want)⟩) (hc : cs.contains i = false) (hs : Fr.sub f1 f) (hk : slotsOk l p i f1 = true)
    (hG : Grd n l.toArray f1 j want true) (hr : ∀ w', Keep T w w' → Gives P n f1 w' op ty v w') (h : PA P n l p T s0 (fun i => cs.contains i) Fin r ((d, v) :: f) w) : PA P n l p T s0 (fun i => cs.contains i) Fin (i :: r) f w := by
  unfold PA
  refine ⟨_, f1, ho, hs, hk, .inr ⟨hc, v, fun w' hw a ha K Q hK => ?_, by rw [frPut_at ho]; exact h⟩⟩
  have hwt : Region.wanted ⟨some d, op, ty, pos, aft, some (j, want)⟩ (yielded l.toArray a.tmps) = true := hG a ha
  rw [hwt]
  refine ⟨fun _ => ?_, fun hcf => by cases hcf⟩
  unfold Oper.wp
  rw [hr w' hw a ha]
  exact hK _ _ ⟨rfl, rfl⟩
end
theorem g_pickT {x y z : Operand} {b : Bool} {v : Value} (hx : f.ev x = some (.bool b)) (hb : b = true) (hy : f.ev y = some v) : Gives P n f w (.pick x y z) ty v w := by
  subst hb
  intro a ha dst pos aft g
  simp [execOp, ha.ev hx, ha.ev hy, asBool]
theorem g_pickF {x y z : Operand} {b : Bool} {v : Value} (hx : f.ev x = some (.bool b)) (hb : b = false) (hz : f.ev z = some v) : Gives P n f w (.pick x y z) ty v w := by
  subst hb
  intro a ha dst pos aft g
  simp [execOp, ha.ev hx, ha.ev hz, asBool]
theorem Rd.cblk {w : World} {s m : Nat} {v : Value} {cs : List Value} (h : Rd w s v m cs) : Eng.cblk v = vblk v := by
  obtain ⟨A, c, rfl, _⟩ := h
  cases A <;> rfl
theorem g_faE {x : Operand} {T : TypeId} {fs : Array Field} {i : Nat} {fd : Field} {b o : Nat} (o' : Nat) {zs : List Value} {s by_ : Nat} (hT : P.underlying T = some (.struct fs)) (hf : fs[i]? = some fd) (hs : Ty P fd.type zs s by_) (h0 : s ≠ 0)
    (hx : f.ev x = some (.pointer (some ⟨b, o, none⟩))) (ho : o + fd.offset = o') : Gives P n f w (.fieldAddr T x i) ty (.pointer (some ⟨b, o', none⟩)) w := by subst ho; exact g_fa hT hf hs h0 hx
end
end Go.Eng
namespace Go.Eng
open Go Go.IntWalk
section
variable {P : Program} {n : Nat}
end
section
variable {P : Program} {n : Nat} {fin : Exit → Act → World → Prop} {k : List KI} {f : Fr} {w : World}
def FinG (P : Program) (n : Nat) (l : List Oper) (p s0 : Nat) (cs : List Nat) (fc : Fr) (G : Fr → World → Prop) : List (Nat × TypeId × List Value) → List Nat → Fr → World → Prop
  | [], _, f, w => G f w
  | q :: r, seen, f, w => ∀ b, s0 ≤ b → b < w.heap.size → Bk w b q.2.1 q.2.2 → (∀ x, x ∈ seen → x ≠ b) → (∀ j, j ∈ cs → hasDst l j = true → ∀ v, fc.get (dstOf l j) = some v → ∀ x, x ∈ cblk v → x ≠ b) →
    FinG P n l p s0 cs fc G r (b :: seen) ((dstOf l q.1, .pointer (some ⟨b, 0, none⟩)) :: f) w
theorem FinG.use {l : List Oper} {p s0 : Nat} {cs : List Nat} {fc : Fr} {G : Fr → World → Prop} {bs : Nat → Nat} : ∀ {fl : List (Nat × TypeId × List Value)} {seen : List Nat} {f : Fr} {w : World}, FinG P n l p s0 cs fc G fl seen f w →
    (∀ q, q ∈ fl → s0 ≤ bs q.1 ∧ bs q.1 < w.heap.size ∧ Bk w (bs q.1) q.2.1 q.2.2 ∧ (∀ j, j ∈ cs → hasDst l j = true → ∀ v, fc.get (dstOf l j) = some v → ∀ x, x ∈ cblk v → x ≠ bs q.1) ∧ (∀ x, x ∈ seen → x ≠ bs q.1)) →
    (fl.map (·.1)).Nodup → (∀ q q', q ∈ fl → q' ∈ fl → q.1 ≠ q'.1 → bs q.1 ≠ bs q'.1) → G (flFr l bs fl f) w
  | [], seen, f, w, h, _, _, _ => h
  | q :: r, seen, f, w, h, hq, hnd, hd => by
    obtain ⟨h1, h2, h3, h4, h5⟩ := hq q (by simp)
    have hnd' := List.nodup_cons.1 hnd
    refine FinG.use (fl := r) (f := (dstOf l q.1, .pointer (some ⟨bs q.1, 0, none⟩)) :: f) (h (bs q.1) h1 h2 h3 h5 h4) (fun q' hq' => ?_) hnd'.2 (fun a b ha hb => hd a b (by simp [ha]) (by simp [hb]))
    obtain ⟨g1, g2, g3, g4, g5⟩ := hq q' (by simp [hq'])
    refine ⟨g1, g2, g3, g4, fun x hx => ?_⟩
    rcases List.mem_cons.1 hx with rfl | hx
    · exact hd q q' (by simp) (by simp [hq']) (fun e => hnd'.1 (List.mem_map.2 ⟨q', hq', e.symm⟩))
    · exact g5 x hx
end
end Go.Eng
namespace Go.Eng
open Go Go.IntWalk
section
variable {α : Type}
theorem flat_drop {s : Nat} : ∀ {css : List (List Value)} {i : Nat} {cs : List Value}, (∀ c ∈ css, c.length = s) → css[i]? = some cs → (css.flatten.drop (i * s)).take s = cs
  | [], i, cs, _, h => by simp at h
  | c :: r, 0, cs, hl, h => by
    simp at h; subst h
    have := hl c (by simp)
    simp only [Nat.zero_mul, List.drop_zero, List.flatten_cons]
    rw [List.take_append_of_le_length (by omega), ← this, List.take_length]
  | c :: r, i + 1, cs, hl, h => by
    simp at h
    have h1 := hl c (by simp)
    have ih := flat_drop (s := s) (fun c hc => hl c (by simp [hc])) h
    rw [List.flatten_cons, Nat.add_mul, Nat.one_mul, Nat.add_comm, ← List.drop_drop, List.drop_left' h1]
    exact ih
theorem flat_length' {s : Nat} : ∀ {css : List (List Value)}, (∀ c ∈ css, c.length = s) → css.flatten.length = css.length * s
  | [], _ => by simp
  | c :: r, h => by
    rw [List.flatten_cons, List.length_append, h c (by simp), flat_length' (fun c hc => h c (by simp [hc])), List.length_cons, Nat.add_mul, Nat.one_mul, Nat.add_comm]
def Els (s : Nat) (E : List Value → α → Prop) (css : List (List Value)) (xs : List α) : Prop := css.length = xs.length ∧ (∀ c ∈ css, c.length = s) ∧ ∀ (i : Nat) cs x, css[i]? = some cs → xs[i]? = some x → E cs x
theorem Els.mono {s : Nat} {E E' : List Value → α → Prop} {css : List (List Value)} {xs : List α} (h : Els s E css xs) (hm : ∀ cs x, E cs x → E' cs x) : Els s E' css xs := ⟨h.1, h.2.1, fun i cs x h1 h2 => hm _ _ (h.2.2 i cs x h1 h2)⟩
theorem els_nil (s : Nat) (E : List Value → α → Prop) : Els s E [] [] := ⟨rfl, (fun c hc => by cases hc), (fun i cs x h _ => by simp at h)⟩
theorem Els.snoc {s : Nat} {E : List Value → α → Prop} {css : List (List Value)} {xs : List α} (h : Els s E css xs) {cs : List Value} {x : α} (hl : cs.length = s) (he : E cs x) : Els s E (css ++ [cs]) (xs ++ [x]) := by
  obtain ⟨h1, h2, h3⟩ := h
  refine ⟨by simp [h1], fun c hc => ?_, fun i c y hc hy => ?_⟩
  · rcases List.mem_append.1 hc with h | h
    · exact h2 c h
    · rw [List.mem_singleton] at h; subst h; exact hl
  · rcases Nat.lt_trichotomy i css.length with hi | hi | hi
    · rw [List.getElem?_append_left hi] at hc
      rw [List.getElem?_append_left (by omega)] at hy
      exact h3 i c y hc hy
    · rw [List.getElem?_append_right (by omega), show i - css.length = 0 from by omega] at hc
      rw [List.getElem?_append_right (by omega), show i - xs.length = 0 from by omega] at hy
      simp at hc hy; subst hc hy; exact he
    · rw [List.getElem?_eq_none (by simp; omega)] at hc; cases hc
def RdE (w : World) (s : Nat) (E : List Value → α → Prop) (v : Value) (xs : List α) : Prop := ∃ css, Els s E css xs ∧ Rd w s v xs.length css.flatten
def OwnE (w : World) (lo : Nat) (T : TypeId) (s : Nat) (E : List Value → α → Prop) (v : Value) (xs : List α) : Prop := ∃ css, Els s E css xs ∧ Own w lo T s v xs.length css.flatten
theorem OwnE.rd {w : World} {lo s : Nat} {T : TypeId} {E : List Value → α → Prop} {v : Value} {xs : List α} (h : OwnE w lo T s E v xs) : RdE w s E v xs := by obtain ⟨css, h1, h2⟩ := h; exact ⟨css, h1, h2.rd⟩
theorem OwnE.blk {w : World} {lo s : Nat} {T : TypeId} {E : List Value → α → Prop} {v : Value} {xs : List α} (h : OwnE w lo T s E v xs) : ∀ x, x ∈ vblk v → lo ≤ x ∧ x < w.heap.size := by obtain ⟨css, h1, h2⟩ := h; exact h2.blk
theorem OwnE.mono {w : World} {lo s : Nat} {T : TypeId} {E E' : List Value → α → Prop} {v : Value} {xs : List α} (h : OwnE w lo T s E v xs) (hm : ∀ cs x, E cs x → E' cs x) : OwnE w lo T s E' v xs := by obtain ⟨css, h1, h2⟩ := h; exact ⟨css, h1.mono hm, h2⟩
theorem RdE.mono {w : World} {s : Nat} {E E' : List Value → α → Prop} {v : Value} {xs : List α} (h : RdE w s E v xs) (hm : ∀ cs x, E cs x → E' cs x) : RdE w s E' v xs := by obtain ⟨css, h1, h2⟩ := h; exact ⟨css, h1.mono hm, h2⟩
theorem OwnE.lo {w : World} {lo lo' s : Nat} {T : TypeId} {E : List Value → α → Prop} {v : Value} {xs : List α} (h : OwnE w lo T s E v xs) (hl : lo' ≤ lo) : OwnE w lo' T s E v xs := by obtain ⟨css, h1, h2⟩ := h; exact ⟨css, h1, h2.lo hl⟩
theorem OwnE.keep {S : List Nat} {w w' : World} {lo s : Nat} {T : TypeId} {E : List Value → α → Prop} {v : Value} {xs : List α} (h : OwnE w lo T s E v xs) (k : Keep S w w') (hn : ∀ x, x ∈ vblk v → x ∉ S) : OwnE w' lo T s E v xs := by obtain ⟨css, h1, h2⟩ := h; exact ⟨css, h1, h2.keep k hn⟩
theorem RdE.keep {S : List Nat} {w w' : World} {s : Nat} {E : List Value → α → Prop} {v : Value} {xs : List α} (h : RdE w s E v xs) (k : Keep S w w') (hn : ∀ x, x ∈ vblk v → x ∉ S) : RdE w' s E v xs := by obtain ⟨css, h1, h2⟩ := h; exact ⟨css, h1, h2.keep k hn⟩
theorem ownE_nil (w : World) (lo : Nat) (T : TypeId) (s : Nat) (E : List Value → α → Prop) : OwnE w lo T s E (.slice none 0 0) [] := ⟨[], els_nil s E, own_nil _ _ _ _⟩
theorem RdE.get {w : World} {s : Nat} {E : List Value → α → Prop} {v : Value} {xs : List α} (h : RdE w s E v xs) {i : Nat} (hi : i < xs.length) : ∃ cs0 cs x, Rd w s v xs.length cs0 ∧ xs[i]? = some x ∧ (cs0.drop (i * s)).take s = cs ∧ cs.length = s ∧ E cs x := by
  obtain ⟨css, ⟨h1, h2, h3⟩, h4⟩ := h
  have hc : css[i]? = some (css[i]'(by omega)) := List.getElem?_eq_getElem (by omega)
  exact ⟨_, _, xs[i], h4, List.getElem?_eq_getElem hi, flat_drop h2 hc, h2 _ (List.getElem_mem _), h3 i _ _ hc (List.getElem?_eq_getElem hi)⟩
theorem RdE.len {w : World} {s : Nat} {E : List Value → α → Prop} {v : Value} {xs : List α} (h : RdE w s E v xs) : ∃ cs0, Rd w s v xs.length cs0 := by obtain ⟨css, _, h⟩ := h; exact ⟨_, h⟩
end
end Go.Eng
namespace Go.Byt
theorem be_succ (n : Int) (k : Nat) : be n (k + 1) = be (n / 256) k ++ [byteAt n 0] := by
  unfold be
  rw [List.range_succ, List.map_append]
  congr 1
  · apply List.map_congr_left
    intro j hj
    have hj : j < k := List.mem_range.1 hj
    unfold byteAt
    have e : (2 : Int) ^ (8 * (k + 1 - 1 - j)) = 256 * 2 ^ (8 * (k - 1 - j)) := by
      have : 8 * (k + 1 - 1 - j) = 8 + 8 * (k - 1 - j) := by omega
      rw [this, Int.pow_add]; rfl
    rw [e, ← Int.ediv_ediv_of_nonneg (by decide)]
  · simp
end Go.Byt
namespace Go.Byt
theorem u8_ext {a b : UInt8} (h : (a.toNat : Int) = b.toNat) : a = b := UInt8.toNat_inj.1 (by omega)
theorem be_num (xs : List UInt8) : be (num xs) xs.length = xs := by
  have key : ∀ (n : Nat) (xs : List UInt8), xs.length = n → be (num xs) n = xs := by
    intro n
    induction n with
    | zero => intro xs h; have : xs = [] := List.eq_nil_of_length_eq_zero h
              subst this; rfl
    | succ n ih =>
      intro xs h
      have hne : xs ≠ [] := fun e => by subst e; simp at h
      obtain ⟨ys, y, rfl⟩ : ∃ ys y, xs = ys ++ [y] := ⟨xs.dropLast, xs.getLast hne, (List.dropLast_concat_getLast hne).symm⟩
      have hl : ys.length = n := by simpa using h
      have h2 := y.toNat_lt
      rw [be_succ, num_snoc, show (num ys * 256 + (y.toNat : Int)) / 256 = num ys by omega, ih ys hl]
      congr 2
      refine u8_ext ?_
      rw [byteAt_toNat]; simp; omega
  exact key _ xs rfl
theorem rLen_0 {x : UInt8} {r : List UInt8} (h : x.toNat < 64) : rLen (x :: r) 0 = ((x.toNat : Int), r, 0) := by
  have htop : top (x :: r) = 0 := by show x.toNat / 64 = 0; omega
  unfold rLen
  rw [htop, if_neg (by decide), if_neg (by decide), if_neg (by simp), if_neg (fun h => absurd h.1 (by decide))]
  have e : num ((x :: r).take (2 ^ 0)) = x.toNat := by show num [x] = _; simp [num]
  have e2 : (2 : Int) ^ (8 * 2 ^ 0 - 2) = 64 := rfl
  rw [e, e2, Int.emod_eq_of_lt (by omega) (by omega)]; rfl
theorem rLen_1 {x y : UInt8} {r : List UInt8} (h : x.toNat / 64 = 1) (hm : ((x.toNat : Int) * 256 + y.toNat) % 16384 / 64 ≠ 0) : rLen (x :: y :: r) 0 = (((x.toNat : Int) * 256 + y.toNat) % 16384, r, 0) := by
  have htop : top (x :: y :: r) = 1 := h
  unfold rLen
  have e : num ((x :: y :: r).take (2 ^ 1)) = (x.toNat : Int) * 256 + y.toNat := by show num [x, y] = _; simp [num]
  have e2 : (2 : Int) ^ (8 * 2 ^ 1 - 2) = 16384 := rfl
  have e3 : (2 : Int) ^ (4 * 2 ^ 1 - 2) = 64 := rfl
  rw [htop, if_neg (by decide), if_neg (by decide), if_neg (by simp), e, e2, e3, if_neg (fun h => hm h.2)]; rfl
theorem rLen_2 {x y z u : UInt8} {r : List UInt8} (h : x.toNat / 64 = 2) (hm : ((((x.toNat : Int) * 256 + y.toNat) * 256 + z.toNat) * 256 + u.toNat) % 1073741824 / 16384 ≠ 0) : rLen (x :: y :: z :: u :: r) 0 = (((((x.toNat : Int) * 256 + y.toNat) * 256 + z.toNat) * 256 + u.toNat) % 1073741824, r, 0) := by
  have htop : top (x :: y :: z :: u :: r) = 2 := h
  unfold rLen
  have e : num ((x :: y :: z :: u :: r).take (2 ^ 2)) = (((x.toNat : Int) * 256 + y.toNat) * 256 + z.toNat) * 256 + u.toNat := by show num [x, y, z, u] = _; simp [num]
  have e2 : (2 : Int) ^ (8 * 2 ^ 2 - 2) = 1073741824 := rfl
  have e3 : (2 : Int) ^ (4 * 2 ^ 2 - 2) = 16384 := rfl
  rw [htop, if_neg (by decide), if_neg (by decide), if_neg (by simp), e, e2, e3, if_neg (fun h => hm h.2)]; rfl
theorem be_1 (n : Int) : be n 1 = [byteAt n 0] := by simp [be]
theorem be_2 (n : Int) : be n 2 = [byteAt n 1, byteAt n 0] := by simp [be, List.range_succ]
theorem be_4 (n : Int) : be n 4 = [byteAt n 3, byteAt n 2, byteAt n 1, byteAt n 0] := by simp [be, List.range_succ]
theorem rLen_vlen {n : Nat} (h : n < 1073741824) (r : List UInt8) : rLen (vlen n ++ r) 0 = ((n : Int), r, 0) := by
  unfold vlen
  by_cases h1 : n < 64
  · rw [if_pos h1, be_1]
    have hb := byteAt_toNat n 0
    simp at hb
    have := rLen_0 (x := byteAt n 0) (r := r) (by omega)
    show rLen (byteAt n 0 :: r) 0 = _
    rw [this]; congr 1; omega
  · by_cases h2 : n < 16384
    · rw [if_neg h1, if_pos h2, be_2]
      have hb := byteAt_toNat (n + 16384 : Nat) 0
      have hc := byteAt_toNat (n + 16384 : Nat) 1
      rw [show (2 : Int) ^ (8 * 0) = 1 from rfl] at hb
      rw [show (2 : Int) ^ (8 * 1) = 256 from rfl] at hc
      have := rLen_1 (x := byteAt (n + 16384 : Nat) 1) (y := byteAt (n + 16384 : Nat) 0) (r := r) (by omega) (by omega)
      show rLen (byteAt (n + 16384 : Nat) 1 :: byteAt (n + 16384 : Nat) 0 :: r) 0 = _
      rw [this]; congr 1; omega
    · rw [if_neg h1, if_neg h2, be_4]
      have hb := byteAt_toNat (n + 2147483648 : Nat) 0
      have hc := byteAt_toNat (n + 2147483648 : Nat) 1
      have hd := byteAt_toNat (n + 2147483648 : Nat) 2
      have he := byteAt_toNat (n + 2147483648 : Nat) 3
      rw [show (2 : Int) ^ (8 * 0) = 1 from rfl] at hb
      rw [show (2 : Int) ^ (8 * 1) = 256 from rfl] at hc
      rw [show (2 : Int) ^ (8 * 2) = 65536 from rfl] at hd
      rw [show (2 : Int) ^ (8 * 3) = 16777216 from rfl] at he
      have := rLen_2 (x := byteAt (n + 2147483648 : Nat) 3) (y := byteAt (n + 2147483648 : Nat) 2) (z := byteAt (n + 2147483648 : Nat) 1) (u := byteAt (n + 2147483648 : Nat) 0) (r := r) (by omega) (by omega)
      show rLen (byteAt (n + 2147483648 : Nat) 3 :: byteAt (n + 2147483648 : Nat) 2 :: byteAt (n + 2147483648 : Nat) 1 :: byteAt (n + 2147483648 : Nat) 0 :: r) 0 = _
      rw [this]; congr 1; omega
theorem rVec_vec {xs : List UInt8} (h : xs.length ≤ 65536) (r : List UInt8) : rVec (vec xs ++ r) 0 = (xs, r, 0) := by
  unfold rVec vec
  rw [if_neg (by decide), List.append_assoc, rLen_vlen (by omega)]
  dsimp only
  have e : rTake (xs ++ r) 0 (xs.length : Int) = (xs, r, 0) := by
    unfold rTake
    rw [if_neg (by decide), if_neg (by omega), if_neg (by rw [List.length_append]; omega), Int.toNat_natCast, List.take_left' rfl, List.drop_left' rfl]
  rw [if_neg (by decide), if_neg (by omega), e]; rfl
theorem vlen_of {n : Int} {bs : List UInt8} (h : num bs = n) : be n bs.length = bs := by subst h; exact be_num bs
theorem rLen_inv {rest r : List UInt8} {n : Int} (h : rLen rest 0 = (n, r, 0)) : 0 ≤ n ∧ n < 1073741824 ∧ rest = vlen n.toNat ++ r := by
  unfold rLen at h
  rw [if_neg (by decide)] at h
  have htop : top rest < 4 := by
    unfold top
    have := (rest.getD 0 0).toNat_lt; omega
  have ht : top rest = 0 ∨ top rest = 1 ∨ top rest = 2 ∨ top rest = 3 := by omega
  rcases ht with ht | ht | ht | ht <;> rw [ht] at h
  · rw [if_neg (by decide)] at h
    by_cases hl : rest.length < 2 ^ 0
    · rw [if_pos hl] at h; simp at h
    rw [if_neg hl, if_neg (fun h => absurd h.1 (by decide))] at h
    obtain ⟨x, t, rfl⟩ : ∃ x t, rest = x :: t := by
      match rest, hl with
      | [], hl => simp at hl
      | x :: t, _ => exact ⟨x, t, rfl⟩
    have e : num ((x :: t).take (2 ^ 0)) = x.toNat := by show num [x] = _; simp [num]
    have e2 : (2 : Int) ^ (8 * 2 ^ 0 - 2) = 64 := rfl
    have hx : x.toNat / 64 = 0 := ht
    rw [e, e2] at h
    simp only [Prod.mk.injEq] at h
    obtain ⟨h1, h2, _⟩ := h
    have h2 : t = r := h2
    subst h2
    refine ⟨by omega, by omega, ?_⟩
    unfold vlen
    rw [if_pos (by omega), show ((n.toNat : Nat) : Int) = num [x] by simp [num]; omega]
    have := be_num [x]
    rw [show ([x] : List UInt8).length = 1 from rfl] at this
    rw [this]; rfl
  · rw [if_neg (by decide)] at h
    by_cases hl : rest.length < 2 ^ 1
    · rw [if_pos hl] at h; simp at h
    rw [if_neg hl] at h
    obtain ⟨x, y, t, rfl⟩ : ∃ x y t, rest = x :: y :: t := by
      match rest, hl with
      | [], hl => simp at hl
      | [x], hl => simp at hl
      | x :: y :: t, _ => exact ⟨x, y, t, rfl⟩
    have e : num ((x :: y :: t).take (2 ^ 1)) = (x.toNat : Int) * 256 + y.toNat := by show num [x, y] = _; simp [num]
    have e2 : (2 : Int) ^ (8 * 2 ^ 1 - 2) = 16384 := rfl
    have e3 : (2 : Int) ^ (4 * 2 ^ 1 - 2) = 64 := rfl
    have hx : x.toNat / 64 = 1 := ht
    have hy := y.toNat_lt
    rw [e, e2, e3] at h
    by_cases hm : 0 < 1 ∧ ((x.toNat : Int) * 256 + y.toNat) % 16384 / 64 = 0
    · rw [if_pos hm] at h; simp at h
    rw [if_neg hm] at h
    simp only [Prod.mk.injEq] at h
    obtain ⟨h1, h2, _⟩ := h
    have h2 : t = r := h2
    subst h2
    refine ⟨by omega, by omega, ?_⟩
    unfold vlen
    rw [if_neg (by omega), if_pos (by omega), show ((n.toNat + 16384 : Nat) : Int) = num [x, y] by simp [num]; omega]
    have := be_num [x, y]
    rw [show ([x, y] : List UInt8).length = 2 from rfl] at this
    rw [this]; rfl
  · rw [if_neg (by decide)] at h
    by_cases hl : rest.length < 2 ^ 2
    · rw [if_pos hl] at h; simp at h
    rw [if_neg hl] at h
    obtain ⟨x, y, z, u, t, rfl⟩ : ∃ x y z u t, rest = x :: y :: z :: u :: t := by
      match rest, hl with
      | [], hl => simp at hl
      | [x], hl => simp at hl
      | [x, y], hl => simp at hl
      | [x, y, z], hl => simp at hl
      | x :: y :: z :: u :: t, _ => exact ⟨x, y, z, u, t, rfl⟩
    have e : num ((x :: y :: z :: u :: t).take (2 ^ 2)) = (((x.toNat : Int) * 256 + y.toNat) * 256 + z.toNat) * 256 + u.toNat := by show num [x, y, z, u] = _; simp [num]
    have e2 : (2 : Int) ^ (8 * 2 ^ 2 - 2) = 1073741824 := rfl
    have e3 : (2 : Int) ^ (4 * 2 ^ 2 - 2) = 16384 := rfl
    have hx : x.toNat / 64 = 2 := ht
    have hy := y.toNat_lt
    have hz := z.toNat_lt
    have hu := u.toNat_lt
    rw [e, e2, e3] at h
    by_cases hm : 0 < 2 ∧ ((((x.toNat : Int) * 256 + y.toNat) * 256 + z.toNat) * 256 + u.toNat) % 1073741824 / 16384 = 0
    · rw [if_pos hm] at h; simp at h
    rw [if_neg hm] at h
    simp only [Prod.mk.injEq] at h
    obtain ⟨h1, h2, _⟩ := h
    have h2 : t = r := h2
    subst h2
    refine ⟨by omega, by omega, ?_⟩
    unfold vlen
    rw [if_neg (by omega), if_neg (by omega), show ((n.toNat + 2147483648 : Nat) : Int) = num [x, y, z, u] by simp [num]; omega]
    have := be_num [x, y, z, u]
    rw [show ([x, y, z, u] : List UInt8).length = 4 from rfl] at this
    rw [this]; rfl
  · rw [if_pos rfl] at h; simp at h
theorem rVec_inv {rest x r : List UInt8} {e : Int} (h : rVec rest e = (x, r, 0)) : e = 0 ∧ rest = vec x ++ r ∧ x.length ≤ 65536 := by
  unfold rVec at h
  by_cases he : e = 0
  · subst he
    rw [if_neg (by decide)] at h
    obtain ⟨n, r1, e1, h1⟩ : ∃ n r1 e1, rLen rest 0 = (n, r1, e1) := ⟨_, _, _, rfl⟩
    rw [h1] at h
    dsimp only at h
    by_cases h2 : e1 = 0
    · subst h2
      rw [if_neg (by decide)] at h
      by_cases h3 : 65536 < n
      · rw [if_pos h3] at h; simp at h
      · rw [if_neg h3] at h
        obtain ⟨g0, g1, g2⟩ := rLen_inv h1
        by_cases h4 : (r1.length : Int) < n
        · have e : rTake r1 0 n = ([], r1, 20) := by unfold rTake; rw [if_neg (by decide), if_neg (by omega), if_pos h4]
          rw [e] at h; simp at h
        · have e : rTake r1 0 n = (r1.take n.toNat, r1.drop n.toNat, 0) := by unfold rTake; rw [if_neg (by decide), if_neg (by omega), if_neg h4]
          rw [e] at h
          simp at h
          obtain ⟨hx, hr⟩ := h
          have hl : x.length = n.toNat := by rw [← hx, List.length_take]; omega
          refine ⟨rfl, ?_, by omega⟩
          unfold vec
          rw [hl, g2, List.append_assoc, ← hx, ← hr, List.take_append_drop]
    · rw [if_pos h2] at h; simp at h; exact absurd h.2.2 h2
  · rw [if_pos he] at h; simp at h; exact absurd h.2.2 he
theorem vec_pos (xs : List UInt8) : 0 < (vec xs).length := by
  unfold vec vlen
  rw [List.length_append]
  split
  · rw [be_length]; omega
  · split <;> rw [be_length] <;> omega
abbrev Tri := List UInt8 × List UInt8 × List UInt8
def triB (x : Tri) : List UInt8 := vec x.1 ++ vec x.2.1 ++ vec x.2.2
def tri1 (rest : List UInt8) (e : Int) : Tri × List UInt8 × Int :=
  let a := rVec rest e
  let b := rVec a.2.1 a.2.2
  let c := rVec b.2.1 b.2.2
  ((a.1, b.1, c.1), c.2.1, c.2.2)
def triL : Nat → List UInt8 → Int → List Tri × List UInt8 × Int
  | 0, rest, e => ([], rest, e)
  | n + 1, rest, e =>
    if 0 < rest.length ∧ e = 0 then
      let t := tri1 rest e
      let l := triL n t.2.1 t.2.2
      (t.1 :: l.1, l.2)
    else ([], rest, e)
theorem tri1_ok {rest r : List UInt8} {e : Int} {x : Tri} (h : tri1 rest e = (x, r, 0)) : e = 0 ∧ rest = triB x ++ r ∧ x.1.length ≤ 65536 ∧ x.2.1.length ≤ 65536 ∧ x.2.2.length ≤ 65536 := by
  unfold tri1 at h
  obtain ⟨a, ra, ea, ha⟩ : ∃ a ra ea, rVec rest e = (a, ra, ea) := ⟨_, _, _, rfl⟩
  rw [ha] at h; dsimp only at h
  obtain ⟨b, rb, eb, hb⟩ : ∃ b rb eb, rVec ra ea = (b, rb, eb) := ⟨_, _, _, rfl⟩
  rw [hb] at h; dsimp only at h
  obtain ⟨c, rc, ec, hc⟩ : ∃ c rc ec, rVec rb eb = (c, rc, ec) := ⟨_, _, _, rfl⟩
  rw [hc] at h
  simp only [Prod.mk.injEq] at h
  obtain ⟨rfl, rfl, rfl⟩ := h
  obtain ⟨rfl, h3, l3⟩ := rVec_inv hc
  obtain ⟨rfl, h2, l2⟩ := rVec_inv hb
  obtain ⟨rfl, h1, l1⟩ := rVec_inv ha
  exact ⟨rfl, by unfold triB; rw [h1, h2, h3]; simp, l1, l2, l3⟩
theorem tri1_enc {x : Tri} (h1 : x.1.length ≤ 65536) (h2 : x.2.1.length ≤ 65536) (h3 : x.2.2.length ≤ 65536) (r : List UInt8) : tri1 (triB x ++ r) 0 = (x, r, 0) := by
  unfold tri1 triB
  rw [List.append_assoc, List.append_assoc, rVec_vec h1]
  dsimp only
  rw [rVec_vec h2]
  dsimp only
  rw [rVec_vec h3]
theorem triL_ok : ∀ (n : Nat) (rest : List UInt8) (e : Int) (ss : List Tri), triL n rest e = (ss, [], 0) → e = 0 ∧ rest = ss.flatMap triB ∧ ∀ x ∈ ss, x.1.length ≤ 65536 ∧ x.2.1.length ≤ 65536 ∧ x.2.2.length ≤ 65536
  | 0, rest, e, ss, h => by
    simp only [triL, Prod.mk.injEq] at h
    obtain ⟨rfl, rfl, rfl⟩ := h
    exact ⟨rfl, rfl, fun x hx => by cases hx⟩
  | n + 1, rest, e, ss, h => by
    rw [triL] at h
    by_cases hc : 0 < rest.length ∧ e = 0
    · rw [if_pos hc] at h
      obtain ⟨x, r, e1, ht⟩ : ∃ x r e1, tri1 rest e = (x, r, e1) := ⟨_, _, _, rfl⟩
      rw [ht] at h; dsimp only at h
      obtain ⟨sl, hl⟩ : ∃ sl, sl = (triL n r e1).1 := ⟨_, rfl⟩
      simp only [Prod.mk.injEq] at h
      obtain ⟨h1, h2⟩ := h
      have hq : triL n r e1 = ((triL n r e1).1, [], 0) := Prod.ext rfl h2
      obtain ⟨rfl, hr, hs⟩ := triL_ok n r e1 _ hq
      obtain ⟨h3, h4, h5⟩ := tri1_ok ht
      subst h1
      refine ⟨h3, by rw [List.flatMap_cons, ← hr]; exact h4, fun y hy => ?_⟩
      rcases List.mem_cons.1 hy with rfl | hy
      · exact h5
      · exact hs y hy
    · rw [if_neg hc] at h
      simp only [Prod.mk.injEq] at h
      obtain ⟨rfl, rfl, rfl⟩ := h
      exact ⟨rfl, rfl, fun x hx => by cases hx⟩
theorem triB_pos (x : Tri) : 0 < (triB x).length := by
  unfold triB
  have := vec_pos x.1
  rw [List.length_append, List.length_append]; omega
theorem triL_enc : ∀ (ss : List Tri) (n : Nat), (ss.flatMap triB).length < n → (∀ x ∈ ss, x.1.length ≤ 65536 ∧ x.2.1.length ≤ 65536 ∧ x.2.2.length ≤ 65536) → triL n (ss.flatMap triB) 0 = (ss, [], 0)
  | [], n, _, _ => by
    cases n with
    | zero => rfl
    | succ n => rw [triL, if_neg (by simp)]; rfl
  | x :: ss, n, hn, hs => by
    cases n with
    | zero => omega
    | succ n =>
      have hp := triB_pos x
      rw [List.flatMap_cons] at hn ⊢
      rw [List.length_append] at hn
      obtain ⟨h1, h2, h3⟩ := hs x (by simp)
      rw [triL, if_pos ⟨by rw [List.length_append]; omega, rfl⟩, tri1_enc h1 h2 h3]
      dsimp only
      rw [triL_enc ss n (by omega) (fun y hy => hs y (by simp [hy]))]
theorem triL_step {n : Nat} {rest : List UInt8} {e : Int} (hr : 0 < rest.length) (he : e = 0) : triL (n + 1) rest e = ((tri1 rest e).1 :: (triL n (tri1 rest e).2.1 (tri1 rest e).2.2).1, (triL n (tri1 rest e).2.1 (tri1 rest e).2.2).2) := by
  rw [triL, if_pos ⟨hr, he⟩]
theorem triL_end (n : Nat) {rest : List UInt8} {e : Int} (h : ¬ (0 < rest.length ∧ e = 0)) : triL n rest e = ([], rest, e) := by
  cases n with
  | zero => rfl
  | succ n => rw [triL, if_neg h]
theorem tri1_less {rest : List UInt8} {e : Int} (hr : 0 < rest.length) : (tri1 rest e).2.2 = 0 → (tri1 rest e).2.1.length < rest.length := by
  intro h
  have ht : tri1 rest e = ((tri1 rest e).1, (tri1 rest e).2.1, 0) := Prod.ext rfl (Prod.ext rfl h)
  obtain ⟨_, h4, _⟩ := tri1_ok ht
  have hp := triB_pos (tri1 rest e).1
  have := congrArg List.length h4
  rw [List.length_append] at this
  omega
def TriI (lb : List UInt8) (xs : List Tri) (rest : List UInt8) (e : Int) : Prop := ∃ n, rest.length + (if e = 0 then 1 else 0) ≤ n ∧ triL (lb.length + 1) lb 0 = (xs ++ (triL n rest e).1, (triL n rest e).2)
theorem triI_start (lb : List UInt8) : TriI lb [] lb 0 := ⟨lb.length + 1, by simp, by simp⟩
theorem triI_step {lb rest : List UInt8} {xs : List Tri} {e : Int} (h : TriI lb xs rest e) (hr : 0 < rest.length) (he : e = 0) : TriI lb (xs ++ [(tri1 rest e).1]) (tri1 rest e).2.1 (tri1 rest e).2.2 := by
  obtain ⟨n, hn, h⟩ := h
  rw [if_pos he] at hn
  cases n with
  | zero => omega
  | succ n =>
    rw [triL_step hr he] at h
    refine ⟨n, ?_, by rw [h]; simp⟩
    by_cases h0 : (tri1 rest e).2.2 = 0
    · rw [if_pos h0]
      have := tri1_less hr h0
      omega
    · rw [if_neg h0]
      have : (tri1 rest e).2.1.length ≤ rest.length := Nat.le_trans (rVec_len _ _) (Nat.le_trans (rVec_len _ _) (rVec_len _ _))
      omega
theorem triI_end {lb rest : List UInt8} {xs : List Tri} {e : Int} (h : TriI lb xs rest e) (hc : ¬ (0 < rest.length ∧ e = 0)) : triL (lb.length + 1) lb 0 = (xs, rest, e) := by
  obtain ⟨n, _, h⟩ := h
  rw [triL_end n hc] at h
  rw [h]; simp
end Go.Byt
namespace Go.Byt
theorem rVec_out (rest : List UInt8) (e : Int) : (rVec rest e).1.length ≤ 65536 := by
  by_cases h : (rVec rest e).2.2 = 0
  · have h' : rVec rest e = ((rVec rest e).1, (rVec rest e).2.1, 0) := Prod.ext rfl (Prod.ext rfl h)
    exact (rVec_inv h').2.2
  · unfold rVec at h ⊢
    by_cases h1 : e ≠ 0
    · rw [if_pos h1]; simp
    · rw [if_neg h1] at h ⊢
      dsimp only at h ⊢
      by_cases h2 : (rLen rest 0).2.2 ≠ 0
      · rw [if_pos h2]; simp
      · rw [if_neg h2] at h ⊢
        by_cases h3 : 65536 < (rLen rest 0).1
        · rw [if_pos h3]; simp
        · rw [if_neg h3] at h ⊢
          by_cases h4 : (rTake (rLen rest 0).2.1 0 (rLen rest 0).1).2.2 ≠ 0
          · rw [if_pos h4]; simp
          · rw [if_neg h4] at h; exact absurd h h4
def TriJ (lb : List UInt8) (xs : List Tri) (rest : List UInt8) (e : Int) : Prop := TriI lb xs rest e ∧ xs.length + rest.length ≤ lb.length + (if e = 0 then 0 else 1)
theorem triJ_start (lb : List UInt8) : TriJ lb [] lb 0 := ⟨triI_start lb, by simp⟩
theorem triJ_step {lb rest : List UInt8} {xs : List Tri} {e : Int} (h : TriJ lb xs rest e) (hr : 0 < rest.length) (he : e = 0) : TriJ lb (xs ++ [(tri1 rest e).1]) (tri1 rest e).2.1 (tri1 rest e).2.2 := by
  refine ⟨triI_step h.1 hr he, ?_⟩
  have h2 := h.2
  rw [if_pos he] at h2
  rw [List.length_append, List.length_singleton]
  by_cases h0 : (tri1 rest e).2.2 = 0
  · rw [if_pos h0]
    have := tri1_less hr h0
    omega
  · rw [if_neg h0]
    have : (tri1 rest e).2.1.length ≤ rest.length := Nat.le_trans (rVec_len _ _) (Nat.le_trans (rVec_len _ _) (rVec_len _ _))
    omega
theorem small_nil : ∀ x ∈ ([] : List Tri), x.1.length ≤ 65536 ∧ x.2.1.length ≤ 65536 ∧ x.2.2.length ≤ 65536 := fun x hx => by cases hx
theorem small_step {xs : List Tri} (h : ∀ x ∈ xs, x.1.length ≤ 65536 ∧ x.2.1.length ≤ 65536 ∧ x.2.2.length ≤ 65536) (rest : List UInt8) (e : Int) : ∀ x ∈ xs ++ [(tri1 rest e).1], x.1.length ≤ 65536 ∧ x.2.1.length ≤ 65536 ∧ x.2.2.length ≤ 65536 := by
  intro x hx
  rcases List.mem_append.1 hx with h1 | h1
  · exact h x h1
  · rw [List.mem_singleton] at h1; subst h1
    exact ⟨rVec_out _ _, rVec_out _ _, rVec_out _ _⟩
def triM (rest : List UInt8) (e : Int) : Nat := rest.length + (if e = 0 then 1 else 0)
theorem triM_less {rest : List UInt8} {e : Int} (hr : 0 < rest.length) (he : e = 0) : triM (tri1 rest e).2.1 (tri1 rest e).2.2 < triM rest e := by
  unfold triM
  rw [if_pos he]
  by_cases h0 : (tri1 rest e).2.2 = 0
  · rw [if_pos h0]; have := tri1_less hr h0; omega
  · rw [if_neg h0]
    have : (tri1 rest e).2.1.length ≤ rest.length := Nat.le_trans (rVec_len _ _) (Nat.le_trans (rVec_len _ _) (rVec_len _ _))
    omega
def triOk (x : Tri) : Bool := decide (x.1.length = 32) && decide (x.2.1.length = 32) && decide (x.2.2.length ≤ 30000)
def triN (ss : List Tri) : Nat := (ss.map fun x => 70 + x.2.2.length).sum
def welOk (ss : List Tri) (info : List UInt8) : Bool := decide (1 ≤ ss.length) && decide (ss.length ≤ 64) && decide (info.length ≤ 64000) && ss.all triOk && decide (triN ss ≤ 60000)
def welE (ss : List Tri) (info : List UInt8) : Int := bif welOk ss info then 0 else 1
def welB (ss : List Tri) (info : List UInt8) : List UInt8 := bif welOk ss info then vec (ss.flatMap triB) ++ vec info else []
theorem triN_take {ss : List Tri} {i : Nat} {x : Tri} (h : ss[i]? = some x) : triN (ss.take (i + 1)) = triN (ss.take i) + (70 + x.2.2.length) := by
  rw [take_get h]; unfold triN; simp
theorem triN_le (ss : List Tri) (i : Nat) : triN (ss.take i) ≤ triN ss := by
  have : triN ss = triN (ss.take i) + triN (ss.drop i) := by unfold triN; rw [← List.sum_append, ← List.map_append, List.take_append_drop]
  omega
theorem flat_take {ss : List Tri} {i : Nat} {x : Tri} (h : ss[i]? = some x) : (ss.take (i + 1)).flatMap triB = (ss.take i).flatMap triB ++ triB x := by
  rw [take_get h]; simp
theorem all_take {ss : List Tri} {i : Nat} {x : Tri} (h : ss[i]? = some x) (ha : (ss.take i).all triOk = true) (hx : triOk x = true) : (ss.take (i + 1)).all triOk = true := by
  rw [take_get h, List.all_append, ha]; simp [hx]
theorem triOk_iff {x : Tri} : triOk x = true ↔ x.1.length = 32 ∧ x.2.1.length = 32 ∧ x.2.2.length ≤ 30000 := by
  unfold triOk; simp only [Bool.and_eq_true, decide_eq_true_eq, and_assoc]
theorem triB_len {x : Tri} (h : triOk x = true) : (triB x).length ≤ 70 + x.2.2.length := by
  obtain ⟨h1, h2, h3⟩ := triOk_iff.1 h
  unfold triB vec
  have e1 : (vlen x.1.length).length = 1 := by rw [h1]; rfl
  have e2 : (vlen x.2.1.length).length = 1 := by rw [h2]; rfl
  have e3 := vlen_length x.2.2.length
  simp only [List.length_append]; omega
theorem flat_len : ∀ {ss : List Tri}, ss.all triOk = true → (ss.flatMap triB).length ≤ triN ss
  | [], _ => by simp
  | x :: ss, h => by
    rw [List.all_cons, Bool.and_eq_true] at h
    have h1 := triB_len h.1
    have h2 := flat_len h.2
    rw [List.flatMap_cons, List.length_append]
    have : triN (x :: ss) = (70 + x.2.2.length) + triN ss := by unfold triN; simp
    omega
theorem bad_at {ss : List Tri} {info : List UInt8} {i : Nat} {x : Tri} (h : ss[i]? = some x) (hx : triOk x = false) : welOk ss info = false := by
  have : ss.all triOk = false := by
    rw [List.all_eq_false]
    exact ⟨x, List.mem_of_getElem? h, by simp [hx]⟩
  unfold welOk; rw [this]; simp
theorem bad_sum {ss : List Tri} {info : List UInt8} (i : Nat) (hx : 60000 < triN (ss.take i)) : welOk ss info = false := by
  have := triN_le ss i
  unfold welOk; rw [decide_eq_false (show ¬ triN ss ≤ 60000 by omega)]; simp
theorem bad_len {ss : List Tri} {info : List UInt8} (h : ss.length < 1 ∨ 64 < ss.length ∨ 64000 < info.length) : welOk ss info = false := by
  unfold welOk
  rcases h with h | h | h
  · rw [decide_eq_false (show ¬ 1 ≤ ss.length by omega)]; simp
  · rw [decide_eq_false (show ¬ ss.length ≤ 64 by omega)]; simp
  · rw [decide_eq_false (show ¬ info.length ≤ 64000 by omega)]; simp
theorem good_wel {ss : List Tri} {info : List UInt8} (h1 : 1 ≤ ss.length) (h2 : ss.length ≤ 64) (h3 : info.length ≤ 64000) (h4 : ss.all triOk = true) (h5 : triN ss ≤ 60000) : welOk ss info = true := by
  unfold welOk
  rw [decide_eq_true h1, decide_eq_true h2, decide_eq_true h3, h4, decide_eq_true h5]; rfl
theorem welOk_iff {ss : List Tri} {info : List UInt8} : welOk ss info = true ↔ 1 ≤ ss.length ∧ ss.length ≤ 64 ∧ info.length ≤ 64000 ∧ ss.all triOk = true ∧ triN ss ≤ 60000 := by
  unfold welOk; simp only [Bool.and_eq_true, decide_eq_true_eq, and_assoc]
theorem triN_bound : ∀ {ss : List Tri}, ss.all triOk = true → triN ss ≤ ss.length * 30070
  | [], _ => by simp [triN]
  | x :: ss, h => by
    rw [List.all_cons, Bool.and_eq_true] at h
    have h1 := (triOk_iff.1 h.1).2.2
    have h2 := triN_bound h.2
    have : triN (x :: ss) = (70 + x.2.2.length) + triN ss := by unfold triN; simp
    rw [List.length_cons]; omega
theorem end_wel {ss : List Tri} {info : List UInt8} (h1 : 1 ≤ ss.length) (h2 : ss.length ≤ 64) (h3 : info.length ≤ 64000) (h4 : ss.all triOk = true) : decide ((triN ss : Int) ≤ 60000) = welOk ss info := by
  by_cases h : triN ss ≤ 60000
  · rw [good_wel h1 h2 h3 h4 h, decide_eq_true (by omega)]
  · rw [bad_sum ss.length (by rw [List.take_length]; omega), decide_eq_false (by omega)]
def welP (c : List UInt8) : (List Tri × List UInt8 × Int) × List UInt8 × List UInt8 × Int :=
  let a := rVec c 0
  let b := rVec a.2.1 a.2.2
  (triL (a.1.length + 1) a.1 0, b.1, b.2.1, b.2.2)
def getOk (c : List UInt8) : Bool := welOk (welP c).1.1 (welP c).2.1 && decide (welB (welP c).1.1 (welP c).2.1 = c)
def getS (c : List UInt8) : List Tri := bif getOk c then (welP c).1.1 else []
def getI (c : List UInt8) : List UInt8 := bif getOk c then (welP c).2.1 else []
def getE (c : List UInt8) : Int := bif getOk c then 0 else 21
theorem triOk_small {ss : List Tri} (h : ss.all triOk = true) : ∀ x ∈ ss, x.1.length ≤ 65536 ∧ x.2.1.length ≤ 65536 ∧ x.2.2.length ≤ 65536 := by
  intro x hx
  obtain ⟨h1, h2, h3⟩ := triOk_iff.1 (List.all_eq_true.1 h x hx)
  omega
theorem welP_1 {c : List UInt8} {xs : List Tri} {rest : List UInt8} {e : Int} (h : triL ((rVec c 0).1.length + 1) (rVec c 0).1 0 = (xs, rest, e)) : welP c = ((xs, rest, e), (rVec (rVec c 0).2.1 (rVec c 0).2.2).1, (rVec (rVec c 0).2.1 (rVec c 0).2.2).2.1, (rVec (rVec c 0).2.1 (rVec c 0).2.2).2.2) := by
  unfold welP; dsimp only; rw [h]
theorem getOk_1 {c : List UInt8} {xs : List Tri} {rest : List UInt8} {e : Int} (h : triL ((rVec c 0).1.length + 1) (rVec c 0).1 0 = (xs, rest, e)) : getOk c = (welOk xs (rVec (rVec c 0).2.1 (rVec c 0).2.2).1 && decide (welB xs (rVec (rVec c 0).2.1 (rVec c 0).2.2).1 = c)) := by
  unfold getOk; rw [welP_1 h]
theorem getOk_iff (c : List UInt8) : getOk c = true ↔ rEnd (welP c).2.2.1 (welP c).2.2.2 = 0 ∧ rEnd (welP c).1.2.1 (welP c).1.2.2 = 0 ∧ welOk (welP c).1.1 (welP c).2.1 = true := by
  unfold getOk
  rw [Bool.and_eq_true, decide_eq_true_eq]
  have rE : ∀ (r : List UInt8) (e : Int), rEnd r e = 0 ↔ r = [] ∧ e = 0 := by
    intro r e
    unfold rEnd
    by_cases he : e = 0
    · subst he
      by_cases hr : 0 < r.length
      · rw [if_neg (by decide), if_pos (by omega)]
        refine ⟨fun h => absurd h (by decide), fun h => ?_⟩
        rw [h.1] at hr; simp at hr
      · have : r = [] := List.eq_nil_of_length_eq_zero (by omega)
        subst this; simp
    · rw [if_pos he]
      exact ⟨fun h => absurd h he, fun h => absurd h.2 he⟩
  rw [rE, rE]
  constructor
  · rintro ⟨hw, hb⟩
    obtain ⟨ss, hss⟩ : ∃ ss, ss = (welP c).1.1 := ⟨_, rfl⟩
    obtain ⟨info, hi⟩ : ∃ info, info = (welP c).2.1 := ⟨_, rfl⟩
    rw [← hss, ← hi] at hw hb
    obtain ⟨h1, h2, h3, h4, h5⟩ := welOk_iff.1 hw
    have hl := flat_len h4
    have hc : c = vec (ss.flatMap triB) ++ (vec info ++ []) := by
      rw [List.append_nil, ← hb]; unfold welB; rw [hw]; rfl
    have ha : rVec c 0 = (ss.flatMap triB, vec info ++ [], 0) := by rw [hc]; exact rVec_vec (by omega) _
    have hb2 : rVec (vec info ++ []) 0 = (info, [], 0) := rVec_vec (by omega) _
    have hP : welP c = (triL ((ss.flatMap triB).length + 1) (ss.flatMap triB) 0, info, [], 0) := by
      unfold welP; rw [ha]; dsimp only; rw [hb2]
    rw [triL_enc ss _ (by omega) (triOk_small h4)] at hP
    rw [hP]
    exact ⟨⟨rfl, rfl⟩, ⟨rfl, rfl⟩, hw⟩
  · rintro ⟨⟨hr, he⟩, ⟨hr2, he2⟩, hw⟩
    refine ⟨hw, ?_⟩
    obtain ⟨a, ra, ea, ha⟩ : ∃ a ra ea, rVec c 0 = (a, ra, ea) := ⟨_, _, _, rfl⟩
    obtain ⟨b, rb, eb, hb⟩ : ∃ b rb eb, rVec ra ea = (b, rb, eb) := ⟨_, _, _, rfl⟩
    have hP : welP c = (triL (a.length + 1) a 0, b, rb, eb) := by unfold welP; rw [ha]; dsimp only; rw [hb]
    rw [hP] at hr he hr2 he2 hw ⊢
    dsimp only at hr he hr2 he2 hw ⊢
    subst hr he
    obtain ⟨rfl, hb3, _⟩ := rVec_inv hb
    obtain ⟨_, ha3, _⟩ := rVec_inv ha
    have ht : triL (a.length + 1) a 0 = ((triL (a.length + 1) a 0).1, [], 0) := Prod.ext rfl (Prod.ext hr2 he2)
    obtain ⟨_, hf, _⟩ := triL_ok _ _ _ _ ht
    unfold welB
    rw [hw, ← hf, cond_true, ha3, hb3, List.append_nil]
theorem getS_small (c : List UInt8) : ∀ x ∈ getS c, x.1.length ≤ 140737488351232 ∧ x.2.1.length ≤ 140737488351232 ∧ x.2.2.length ≤ 140737488351232 := by
  intro x hx
  unfold getS at hx
  cases h : getOk c
  · rw [h] at hx; cases hx
  · rw [h] at hx
    have h1 := h
    unfold getOk at h1
    rw [Bool.and_eq_true] at h1
    have := triOk_small (welOk_iff.1 h1.1).2.2.2.1 x hx
    omega
theorem get_put {c : List UInt8} (h : getE c = 0) : welE (getS c) (getI c) = 0 ∧ welB (getS c) (getI c) = c := by
  unfold getE at h
  cases hg : getOk c
  · rw [hg] at h; exact absurd h (by decide)
  · have h1 := hg
    unfold getOk at h1
    rw [Bool.and_eq_true, decide_eq_true_eq] at h1
    unfold getS getI welE
    rw [hg, cond_true, cond_true, h1.1]
    exact ⟨rfl, h1.2⟩
end Go.Byt
namespace Go.Eng
open Go Go.Byt
theorem tri_cell {l : List Value} {k : Nat} {r e b : Value} (h : (l.drop k).take 3 = [r, e, b]) : l[k]? = some r ∧ l[k + 1]? = some e ∧ l[k + 2]? = some b := by
  have g : ∀ j, j < 3 → l[k + j]? = [r, e, b][j]? := by
    intro j hj
    rw [← h, List.getElem?_take, if_pos hj, List.getElem?_drop]
  exact ⟨g 0 (by decide), g 1 (by decide), g 2 (by decide)⟩
def TriR (w : World) (cs : List Value) (x : Tri) : Prop := ∃ r e b, cs = [r, e, b] ∧ RdB w r x.1 ∧ RdB w e x.2.1 ∧ RdB w b x.2.2
theorem TriR.keep0 {w w' : World} {cs : List Value} {x : Tri} (h : TriR w cs x) (k : Keep [] w w') : TriR w' cs x := by
  obtain ⟨r, e, b, h0, h1, h2, h3⟩ := h; exact ⟨r, e, b, h0, h1.keep0 k, h2.keep0 k, h3.keep0 k⟩
abbrev RdT (w : World) (v : Value) (ss : List Tri) : Prop := RdE w 3 (TriR w) v ss
theorem RdT.keep0 {w w' : World} {v : Value} {ss : List Tri} (h : RdT w v ss) (k : Keep [] w w') : RdT w' v ss := (RdE.keep h k (fun _ _ h => by cases h)).mono fun _ _ h => h.keep0 k
theorem tri_at {w : World} {css : List (List Value)} {ss : List Tri} (h : Els 3 (TriR w) css ss) {i : Nat} (hi : i < ss.length) : ∃ x r e b, ss[i]? = some x ∧ (css.flatten.drop (i * 3)).take 3 = [r, e, b] ∧ RdB w r x.1 ∧ RdB w e x.2.1 ∧ RdB w b x.2.2 := by
  obtain ⟨h1, h2, h3⟩ := h
  have hc : css[i]? = some (css[i]'(by omega)) := List.getElem?_eq_getElem (by omega)
  have hx : ss[i]? = some ss[i] := List.getElem?_eq_getElem hi
  obtain ⟨r, e, b, h0, hr, he, hb⟩ := h3 i _ _ hc hx
  exact ⟨_, r, e, b, hx, by rw [← h0]; exact flat_drop h2 hc, hr, he, hb⟩
abbrev OwB (t8 : TypeId) (w : World) (lo : Nat) (u : Value) (xs : List UInt8) : Prop := Own w lo t8 1 u xs.length (bv xs)
def TriO (t8 : TypeId) (w : World) (lo : Nat) (v : Value) (cs : List Value) (x : Tri) : Prop := ∃ r e b, cs = [r, e, b] ∧ OwB t8 w lo r x.1 ∧ OwB t8 w lo e x.2.1 ∧ OwB t8 w lo b x.2.2 ∧ (∀ y, y ∈ vblk r → y ∉ vblk v) ∧ (∀ y, y ∈ vblk e → y ∉ vblk v) ∧ (∀ y, y ∈ vblk b → y ∉ vblk v)
def OwT (t8 : TypeId) (w : World) (lo : Nat) (T : TypeId) (v : Value) (ss : List Tri) : Prop := OwnE w lo T 3 (TriO t8 w lo v) v ss
theorem OwT.rdT {t8 : TypeId} {w : World} {lo : Nat} {T : TypeId} {v : Value} {ss : List Tri} (h : OwT t8 w lo T v ss) : RdT w v ss := (OwnE.rd h).mono fun _ _ ⟨r, e, b, h0, h1, h2, h3, _⟩ => ⟨r, e, b, h0, h1.rd, h2.rd, h3.rd⟩
theorem OwT.blk {t8 : TypeId} {w : World} {lo : Nat} {T : TypeId} {v : Value} {ss : List Tri} (h : OwT t8 w lo T v ss) : ∀ x, x ∈ vblk v → lo ≤ x ∧ x < w.heap.size := OwnE.blk h
theorem OwT.keepL {t8 : TypeId} {S : List Nat} {w w' : World} {lo : Nat} {T : TypeId} {v : Value} {ss : List Tri} (h : OwT t8 w lo T v ss) (k : Keep S w w') (hS : ∀ x, x ∈ S → x < lo) : OwT t8 w' lo T v ss := by
  have ap : ∀ {u : Value} {xs : List UInt8}, OwB t8 w lo u xs → OwB t8 w' lo u xs := fun ho => Own.keep ho k (fun x hx hm => by have h1 := hS x hm; have h2 := (Own.blk ho x hx).1; omega)
  refine (OwnE.keep h k (fun x hx hm => by have h1 := hS x hm; have h2 := (OwnE.blk h x hx).1; omega)).mono fun _ _ ⟨r, e, b, h0, h1, h2, h3, h4⟩ => ⟨r, e, b, h0, ap h1, ap h2, ap h3, h4⟩
theorem OwT.keep0 {t8 : TypeId} {w w' : World} {lo : Nat} {T : TypeId} {v : Value} {ss : List Tri} (h : OwT t8 w lo T v ss) (k : Keep [] w w') : OwT t8 w' lo T v ss := h.keepL k (fun _ h => by cases h)
theorem OwT.keep {t8 : TypeId} {S : List Nat} {w w' : World} {lo : Nat} {T : TypeId} {v : Value} {ss : List Tri} (h : OwT t8 w lo T v ss) (k : Keep S w w') (hS : ∀ x, lo ≤ x → x ∉ S) : OwT t8 w' lo T v ss := h.keepL k (fun x hx => by rcases Nat.lt_or_ge x lo with h | h; exact h; exact absurd hx (hS x h))
theorem owT_nil (t8 : TypeId) (w : World) (lo : Nat) (T : TypeId) : OwT t8 w lo T (.slice none 0 0) [] := ownE_nil _ _ _ _ _
theorem OwT.lo {t8 : TypeId} {w : World} {lo lo' : Nat} {T : TypeId} {v : Value} {ss : List Tri} (h : OwT t8 w lo T v ss) (hl : lo' ≤ lo) : OwT t8 w lo' T v ss := (OwnE.lo h hl).mono fun _ _ ⟨r, e, b, h0, h1, h2, h3, h4⟩ => ⟨r, e, b, h0, Own.lo h1 hl, Own.lo h2 hl, Own.lo h3 hl, h4⟩
theorem OwT.one {t8 : TypeId} {w : World} {lo : Nat} {T : TypeId} {v : Value} {ss : List Tri} (h : OwT t8 w lo T v ss) : v.oneCell' = true := by obtain ⟨css, _, h⟩ := h; exact h.rd.one
theorem Rd.some' {w : World} {s n : Nat} {v : Value} {cs : List Value} (h : Rd w s v n cs) (hn : 0 < n) : ∃ a m c, v = .slice (some a) m c := by
  obtain ⟨A, c, rfl, h1, _, _, h4, _⟩ := h
  cases A with
  | none => have := h4 rfl; omega
  | some a => exact ⟨a, _, _, rfl⟩
theorem addr_add (a : Addr) (i j : Nat) : (a.add i).add j = a.add (i + j) := by
  unfold Addr.add
  by_cases hi : i = 0 <;> by_cases hj : j = 0 <;> simp [hi, hj, Nat.add_assoc]
section
variable {P : Program} {n : Nat} {f : Fr} {w : World} {ty : TypeId}
theorem g_fae {x : Operand} {T : TypeId} {fs : Array Field} {i : Nat} {fd : Field} {v : Value} {k : Nat} {zs : List Value} {s by_ : Nat} (hT : P.underlying T = some (.struct fs)) (hf : fs[i]? = some fd) (hs : Ty P fd.type zs s by_) (h0 : s ≠ 0)
    (hx : f.ev x = some (.pointer (some (ea v k)))) (hv : ∃ a m c, v = .slice (some a) m c) : Gives P n f w (.fieldAddr T x i) ty (.pointer (some (ea v (k + fd.offset)))) w := by
  intro a ha dst pos aft g
  obtain ⟨A, m, c, rfl⟩ := hv
  simp [execOp, ha.ev hx, Instr.fieldAt, run_underlying hT, hf, Instr.sureAddr, fieldPlace, hs.sizeOf, h0, Eng.ea, addr_add]
theorem d_callv {x : Operand} {i : FuncId} {args : Array Operand} {ats : Array TypeId} {vs : List Value} {R : Value → World → Prop} (hf : f.ev x = some (.func (.func i) #[] #[])) (hx : f.evs args.toList = some vs) (hc : Rets P i vs w R) :
    Does P n f w (.call { callee := .value x, args := args, argTypes := ats }) ty R := by
  intro a ha dst pos aft g K Q hK
  obtain ⟨⟨fn, hfn, hb, hnm⟩, hcalls⟩ := hc
  have hb' : fn.body.isNone = false := by cases h : fn.body <;> simp_all
  have hm : args.map a.eval = vs.toArray := by rw [← Array.toList_inj]; simp [ha.evs hx]
  have hr : (execOp a.eval ⟨dst, .call { callee := .value x, args := args, argTypes := ats }, ty, pos, aft, g⟩).run P w = .ok (.enter i vs.toArray) w := by
    have hcf : (callFunc i vs.toArray).run P w = .ok (.enter i vs.toArray) w := by
      simp only [callFunc, Sem.run_bind, run_program, Result.andThen_ok, hfn, hnm, Bool.false_eq_true, if_false, hb', Sem.run_pure]
    simp [execOp, resolve, Deferred.ofValue, ha.ev hf, invoke, hm, hcf]
  unfold Oper.wp
  rw [hr]
  exact Calls.mono hcalls fun e w' ⟨v, he, hv⟩ => by subst he; exact hK v w' hv
theorem d_appT {t8 t e : TypeId} {x y : Operand} {lo by_ : Nat} {v u r q b : Value} {ss : List Tri} {z : Tri} {zs : List Value} (ht : P.underlying t = some (.slice e)) (he : Ty P e zs 3 by_) (hzs : zs.length = 3)
    (hx : f.ev x = some v) (ho : OwT t8 w lo e v ss) (hy : f.ev y = some u) (hr : Rd w 3 u 1 [r, q, b]) (h1 : OwB t8 w lo r z.1) (h2 : OwB t8 w lo q z.2.1) (h3 : OwB t8 w lo b z.2.2)
    (a1 : ∀ y, y ∈ vblk r → y ∉ vblk v) (a2 : ∀ y, y ∈ vblk q → y ∉ vblk v) (a3 : ∀ y, y ∈ vblk b → y ∉ vblk v) (hb : (ss.length + 1) * by_ ≤ 140737488355328 ∧ ss.length + 1 ≤ 9223372036854775807) (hl : lo ≤ w.heap.size) :
    Does P n f w (.call { callee := .builtin .append, args := #[x, y], argTypes := #[t, t] }) ty
      (fun v' w' => OwT t8 w' lo e v' (ss ++ [z]) ∧ Keep (vblk v) w w' ∧ (∀ x, x ∈ vblk v' → x ∈ vblk v ∨ w.heap.size ≤ x)) := by
  obtain ⟨css, hE, hO⟩ := ho
  have one : ∀ c ∈ [r, q, b], c.oneCell' = true := by
    intro c hc
    simp only [List.mem_cons, List.not_mem_nil, or_false] at hc
    rcases hc with rfl | rfl | rfl
    · exact (Own.rd h1).one
    · exact (Own.rd h2).one
    · exact (Own.rd h3).one
  refine (d_app ht he (by decide) hzs hx hO hy hr one hb hl).mono fun v' w' ⟨g1, g2, g3, _⟩ => ⟨⟨css ++ [[r, q, b]], ?_, ?_⟩, g2, g3⟩
  · have ap : ∀ {u : Value} {xs : List UInt8}, OwB t8 w lo u xs → (∀ y, y ∈ vblk u → y ∉ vblk v) → OwB t8 w' lo u xs ∧ ∀ y, y ∈ vblk u → y ∉ vblk v' := fun ho ha =>
      ⟨Own.keep ho g2 ha, fun y hy hm => by
        rcases g3 y hm with h | h
        · exact ha y hy h
        · have := (Own.blk ho y hy).2; omega⟩
    refine Els.snoc (hE.mono fun cs x ⟨r, e, b, h0, i1, i2, i3, i4, i5, i6⟩ => ⟨r, e, b, h0, (ap i1 i4).1, (ap i2 i5).1, (ap i3 i6).1, (ap i1 i4).2, (ap i2 i5).2, (ap i3 i6).2⟩) rfl ⟨r, q, b, rfl, (ap h1 a1).1, (ap h2 a2).1, (ap h3 a3).1, (ap h1 a1).2, (ap h2 a2).2, (ap h3 a3).2⟩
  · rw [List.flatten_append, List.length_append]; simpa using g1
end
theorem lent_rd {w : World} {lo : Nat} {e : TypeId} {u : Value} {xs : List UInt8} (o : Own w lo e 1 u (xs.length + 2) (bv (xs ++ [201, 202]))) : RdB w (cut u 0 xs.length 1) xs := by
  have h : RdB w u (xs ++ [201, 202]) := by unfold RdB; rw [List.length_append]; exact o.rd
  have h' := h.cutB (l := 0) (hi := xs.length) (by omega) (by simp)
  simpa using h'
theorem cut_cut {w : World} {n : Nat} {cs : List Value} {u : Value} {m k : Nat} (h : Rd w 1 u n cs) : cut (cut u 0 m 1) 0 k 1 = cut u 0 k 1 := by
  obtain ⟨A, c, rfl, _⟩ := h
  have e : ∀ a : Addr, a.add 0 = a := fun a => Addr.add_zero' a
  cases A with
  | none => simp [cut]
  | some a => simp [cut, e]
theorem mark1 (xs : List UInt8) : gb (xs ++ [201, 202]) (xs.length : Int) = 201 := by unfold gb; simp
theorem mark2 (xs : List UInt8) : gb (xs ++ [201, 202]) ((xs.length : Int) + 1) = 202 := by
  unfold gb
  rw [show ((xs.length : Int) + 1).toNat = xs.length + 1 by omega, List.getD_eq_getElem?_getD, List.getElem?_append_right (by omega)]
  simp
theorem RdT.one {w : World} {v : Value} {ss : List Tri} (h : RdT w v ss) : v.oneCell' = true := by obtain ⟨_, _, h⟩ := h; exact h.one
end Go.Eng
namespace Go.Eng
open Go Go.ChangeShapes Go.WideShapes Go.ChangeAt Go.RowKit
section
variable {H : Type} {enc : TypeId × Value → H} {P : Program} {w : World} {base : Nat} {held : Bool}
def Small (P : Program) (t : TypeId) (d : DataW H) : Prop := ∀ n ∈ d.weights P t, n ≤ reachBytes
theorem small_arg {ts : List TypeId} {ds : List (DataW H)} (h : (DataW.weightsEach P ts ds).all (· ≤ reachBytes) = true) {j : Nat} {t : TypeId} {d : DataW H} (ht : ts[j]? = some t) (hd : ds[j]? = some d) : Small P t d := by
  intro n hn
  have := List.all_eq_true.1 h n (DataW.weights_mem_each ht hd n hn)
  simpa using this
theorem small_field {t : TypeId} {fs : Array Field} {parts : List (DataW H)} (hu : P.underlying t = some (.struct fs)) (h : Small P t (.agg parts)) {i : Nat} {f : Field} {d : DataW H} (hf : fs[i]? = some f) (hd : parts[i]? = some d) : Small P f.type d := by
  intro n hn
  refine h n ?_
  simp only [DataW.weights, hu]
  exact DataW.weights_mem_each (j := i) (by simp [hf]) hd n hn
theorem weightsAll_mem {e : TypeId} : ∀ {ds : List (DataW H)} {i : Nat} {d : DataW H}, ds[i]? = some d → ∀ n ∈ d.weights P e, n ∈ DataW.weightsAll P e ds
  | [], i, d, h, _, _ => by simp at h
  | x :: r, 0, d, h, n, hn => by
    simp at h; subst h
    simp only [DataW.weightsAll, List.mem_append]; exact .inl hn
  | x :: r, i + 1, d, h, n, hn => by
    simp at h
    simp only [DataW.weightsAll, List.mem_append]; exact .inr (weightsAll_mem h n hn)
theorem small_elem {t e : TypeId} {elems spare : List (DataW H)} (hu : P.underlying t = some (.slice e)) (h : Small P t (.slice elems spare)) {i : Nat} {d : DataW H} (hd : elems[i]? = some d) : Small P e d := by
  intro n hn
  refine h n ?_
  simp only [DataW.weights, hu, List.mem_cons, List.mem_append]
  exact .inr (.inl (weightsAll_mem hd n hn))
theorem small_len {t e : TypeId} {elems spare : List (DataW H)} (hu : P.underlying t = some (.slice e)) (h : Small P t (.slice elems spare)) : (elems.length + spare.length) * P.bytesOf e ≤ reachBytes := by
  refine h _ ?_
  simp [DataW.weights, hu]
theorem read_bytes' {t e : TypeId} {fuel : Nat} {cs : List Value} {y : DataW H × List MemPlace} (ht : P.underlying t = some (.slice e)) (he : P.underlying e = some (.int .u8)) (hc : P.cellsOf e = 1) (hb : P.bytesOf e = 1)
    (h : DataW.trod enc P w base (fun _ => true) held fuel t cs = some y) (hs : Small P t y.1) : ∃ v xs, cs = [v] ∧ RdB w v xs ∧ xs.length ≤ 140737488351232 := by
  rcases open_ints ht he hc h with ⟨rfl, rfl⟩ | ⟨a, len, cap, zs, rfl, _, hl, hm, hz, hy, hcell, hwz⟩
  · exact ⟨_, [], rfl, Rd.nil _ _, by decide⟩
  · simp only [if_true] at hz
    have hr : reachBytes ≤ 140737488351232 := by decide
    rw [hy] at hs
    have h9 := small_len ht hs
    rw [hb] at h9
    simp only [lits, List.length_map, List.length_take, List.length_drop] at h9
    have hbv : bv ((zs.take len).map fun n => UInt8.ofNat n.toNat) = (zs.take len).map fun n => Value.int .u8 n := by
      simp only [bv, List.map_map]
      apply List.map_congr_left
      intro n hn
      have h1 := hwz n (List.mem_of_mem_take hn)
      have e1 : IntKind.u8.min = 0 := by decide
      have e2 : IntKind.u8.max = 255 := by decide
      simp only [Lit.wf, e1, e2, Bool.and_eq_true, decide_eq_true_eq] at h1
      simp only [Function.comp, UInt8.toNat_ofNat']
      congr 1; omega
    refine ⟨_, (zs.take len).map fun n => UInt8.ofNat n.toNat, rfl, ⟨some a, cap, ?_, ?_, hm, by simp, (fun h => by cases h), ?_⟩, by simp only [List.length_map, List.length_take]; omega⟩
    · congr 1; simp only [List.length_map, List.length_take]; omega
    · simp only [List.length_map, List.length_take]; omega
    · intro a' ha
      cases ha
      rw [hbv]
      intro j u hj
      rw [List.getElem?_map, List.getElem?_take] at hj
      by_cases hjl : j < len
      · rw [if_pos hjl] at hj
        have hjz : j < zs.length := by omega
        rw [List.getElem?_eq_getElem hjz] at hj
        simp only [Option.map_some, Option.some.injEq] at hj
        rw [hcell j hjz, ← hj, List.getD_eq_getElem?_getD, List.getElem?_eq_getElem hjz]; rfl
      · rw [if_neg hjl] at hj; cases hj
theorem read_struct {t : TypeId} {fs : Array Field} {fuel : Nat} {cs : List Value} {y : DataW H × List MemPlace} (ht : P.underlying t = some (.struct fs)) (h : DataW.trod enc P w base (fun _ => true) held fuel t cs = some y) (hs : Small P t y.1) :
    cs.length = P.cellsOf t ∧ ∃ n, ∀ (i : Nat) (f : Field), fs[i]? = some f → ∃ z : DataW H × List MemPlace, DataW.trod enc P w base (fun _ => true) held n f.type ((cs.drop f.offset).take (P.cellsOf f.type)) = some z ∧ Small P f.type z.1 := by
  obtain ⟨xs, n, _, hy, hl, hlen, hf⟩ := DataW.trod_struct ht h
  refine ⟨hl, n, fun i f hi => ?_⟩
  have hlt : i < xs.length := by
    rw [hlen]; exact (Array.getElem?_eq_some_iff.1 hi).1
  refine ⟨xs[i], by rw [hf i f hi, List.getElem?_eq_getElem hlt], ?_⟩
  rw [hy] at hs
  exact small_field ht hs hi (by simp [List.getElem?_eq_getElem hlt])
theorem trod_below {t : TypeId} {v : Value} {d : DataW H} {ps : List MemPlace} {sp : Nat → Bool} (h : DataW.Trod enc P w base sp held t v d ps) : ∀ x ∈ ps, x.block < w.heap.size := by
  obtain ⟨m, hm⟩ := h; exact DataW.trod_lt m _ _ _ hm
end
end Go.Eng
namespace Go.Proofs.Ytimeclfplaonkaa.W
open Go Go.Eng Go.Byt
set_option linter.unusedVariables false
set_option linter.unusedSimpArgs false
abbrev SlB (w : World) (lo : Nat) (v : Value) (ls : List (List UInt8)) : Prop := SlL w lo 23 v ls
set_option maxRecDepth 100000 in
set_option maxHeartbeats 1000000 in
theorem gvectors_any (v : Value) (ls : List (List UInt8)) (lo : Nat) (w : World) (h : SlB w lo v ls) (hsum : (vecs ls).length ≤ 140737488355328) : Rets Try.prog 38 [v] w (fun u w' => OwnB w' w.heap.size u (vecsB ls) ∧ Keep [] w w') := by
 have hB : Keep [] w w := Keep.refl _ _
 obtain ⟨us, h1, h2, h3⟩ := h
 replace h3 := h3.rd
 rw [← h1] at h3
 refine rets_of_tw Try.func38 rfl (by decide) Try.ntmps38 rfl (fun fin _ hfin => ?_)
 refine tw_seq (tw_region (ow_g (g_as rfl) rfl (ow_nil (tw_seq (tw_region (ow_g (g_mv rfl) rfl ?_))))))
 refine ow_d (d_call (vs := [_]) rfl (vectors_any _ us ls _ (Rd.keep0 h3 hB) (RdL.keep0 h2 hB) hsum)) rfl ?_
 rintro _ w1 ⟨v1, rfl, o1, k1⟩
 have gl_o1 := hB.size
 replace hB := hB.trans k1
 have u_o1 := o1.blk
 refine ow_g (g_mv rfl) rfl (ow_g (g_ext (vs := [_, _]) rfl rfl) rfl ?_)
 refine ow_g (g_ext (vs := [_, _]) rfl rfl) rfl ?_
 refine ow_g (g_as rfl) rfl (ow_g (g_as rfl) rfl (ow_nil (tw_seq (tw_region (ow_g (g_mv rfl) rfl (ow_g (g_as rfl) rfl ?_))))))
 refine ow_nil (tw_ret1 hfin Try.results38 rfl ?_)
 exact ⟨‹OwnB _ _ _ _›.lo (Nat.le_refl _), hB⟩
set_option maxRecDepth 100000 in
set_option maxHeartbeats 1000000 in
theorem beq_any (v u : Value) (xs ys : List UInt8) (w : World) (hv : RdB w v xs) (hu : RdB w u ys) : Rets Try.prog 65 [v, u] w (fun r w' => r = .bool (decide (xs = ys)) ∧ w = w') := by
 refine rets_of_tw Try.func65 rfl (by decide) Try.ntmps65 rfl (fun fin _ hfin => ?_)
 refine tw_seq (tw_region (ow_g (g_as rfl) rfl (ow_nil (tw_seq (tw_region (ow_g (g_mv rfl) rfl ?_))))))
 refine ow_g (g_str Try.underlying23 Try.underlying5 Try.underlying9 rfl (by first | assumption | exact Own.rd ‹_› | exact Rd.keep0 ‹_› hB | exact Own.rd (Own.keep0 ‹_› hB))) rfl ?_
 refine ow_g (g_mv rfl) rfl (ow_g (g_str Try.underlying23 Try.underlying5 Try.underlying9 rfl (by first | assumption | exact Own.rd ‹_› | exact Rd.keep0 ‹_› hB | exact Own.rd (Own.keep0 ‹_› hB))) rfl ?_)
 refine ow_g (g_eqs rfl rfl) rfl ?_
 refine ow_g (g_as rfl) rfl (ow_nil (tw_ret1 hfin Try.results65 rfl ?_))
 exact ⟨rfl, rfl⟩
theorem vecsB_tri {x : Tri} (h : triOk x = true) : vecsB [x.1, x.2.1, x.2.2] = triB x := by
  obtain ⟨h1, h2, h3⟩ := triOk_iff.1 h
  unfold vecsB
  rw [if_pos (by intro y hy; simp only [List.mem_cons, List.not_mem_nil, or_false] at hy; rcases hy with rfl | rfl | rfl <;> omega)]
  simp [vecs, triB]
theorem vecs_len3 {a b c : List UInt8} (h1 : a.length ≤ 65536) (h2 : b.length ≤ 65536) (h3 : c.length ≤ 65536) : (vecs [a, b, c]).length ≤ 140737488355328 := by
  have e1 := vlen_length a.length; have e2 := vlen_length b.length; have e3 := vlen_length c.length
  simp only [vecs, vec, List.flatMap_cons, List.flatMap_nil, List.append_nil, List.length_append]; omega
theorem vecs_len2 {a b : List UInt8} (h1 : a.length ≤ 65536) (h2 : b.length ≤ 65536) : (vecs [a, b]).length ≤ 140737488355328 := by
  have e1 := vlen_length a.length; have e2 := vlen_length b.length
  simp only [vecs, vec, List.flatMap_cons, List.flatMap_nil, List.append_nil, List.length_append]; omega
theorem vecsB_2 {a b : List UInt8} (h1 : a.length ≤ 65536) (h2 : b.length ≤ 65536) : vecsB [a, b] = vec a ++ vec b := by
  unfold vecsB
  rw [if_pos (by intro y hy; simp only [List.mem_cons, List.not_mem_nil, or_false] at hy; rcases hy with rfl | rfl <;> omega)]
  simp [vecs]
set_option maxRecDepth 100000 in
set_option maxHeartbeats 1000000 in
theorem gput_any (sv iv : Value) (ss : List Tri) (info : List UInt8) (w : World) (hs : RdT w sv ss) (hi : RdB w iv info) (hsm : ∀ x ∈ ss, x.1.length ≤ 140737488351232 ∧ x.2.1.length ≤ 140737488351232 ∧ x.2.2.length ≤ 140737488351232) : Rets Try.prog 9 [.agg [sv, iv].toArray] w (fun v w' => ∃ u, v = .tuple #[u, .int .i64 (welE ss info)] ∧ OwnB w' w.heap.size u (welB ss info) ∧ Keep [] w w') := by
  have hB : Keep [] w w := Keep.refl _ _
  obtain ⟨css, hEl, hsl⟩ := hs
  refine rets_of_tw Try.func9 rfl (by decide) Try.ntmps9 rfl (fun fin _ hfin => ?_)
  refine tw_seq ?_
  refine tw_region ?_
  refine ow_d (d_box (cs := [sv, iv]) rfl rfl) rfl ?_
  rintro _ w1 ⟨b1, rfl, eb1, hb1, k1, z1⟩
  have ge_b1 : w.heap.size ≤ b1 := by have := hB.size; omega
  replace hB := hB.trans k1
  clear eb1 z1
  refine ow_g (g_as rfl) rfl ?_
  refine ow_g (g_as rfl) rfl ?_
  refine ow_nil ?_
  refine tw_seq ?_
  refine tw_seq ?_
  refine tw_region ?_
  refine ow_g (g_faE 0 Try.underlying29 rfl ty27 (by decide) rfl rfl) rfl ?_
  refine ow_g (g_ldb sc27 rfl hb1 rfl) rfl ?_
  refine ow_g (g_len Try.underlying27 rfl (by first | assumption | exact Own.rd (by assumption) | exact Rd.keep0 (by assumption) hB | exact Own.rd (Own.keep0 (by assumption) hB))) rfl ?_
  refine ow_g (g_lt rfl rfl) rfl ?_
  refine ow_g (g_mv rfl) rfl ?_
  refine ow_grp 12 false rfl (fun c1 hgc1 => ?_)
  refine ow_gg [(1, _)] (grd1 rfl rfl rfl hgc1) ⟨und0 rfl, trivial⟩ (fun hw1 => g_faE 0 Try.underlying29 rfl ty27 (by decide) rfl rfl) rfl ?_
  refine ow_gg [(13, _)] (grd1 rfl rfl rfl hgc1) ⟨und1 rfl, trivial⟩ (fun hw2 => g_ldb sc27 rfl hb1 rfl) rfl ?_
  refine ow_gg [(14, _)] (grd1 rfl rfl rfl hgc1) ⟨und1 rfl, trivial⟩ (fun hw3 => g_len Try.underlying27 rfl (by first | assumption | exact Own.rd (by assumption) | exact Rd.keep0 (by assumption) hB | exact Own.rd (Own.keep0 (by assumption) hB))) rfl ?_
  refine ow_gg [(15, _)] (grd1 rfl rfl rfl hgc1) ⟨und1 rfl, trivial⟩ (fun hw4 => g_gt rfl rfl) rfl ?_
  refine ow_g (g_por rfl rfl hgc1) rfl ?_
  refine ow_g (g_mv rfl) rfl ?_
  refine ow_grp 18 false rfl (fun c2 hgc2 => ?_)
  refine ow_gg [(1, _)] (grd1 rfl rfl rfl hgc2) ⟨und0 rfl, trivial⟩ (fun hw5 => g_faE 1 Try.underlying29 rfl ty23 (by decide) rfl rfl) rfl ?_
  refine ow_gg [(19, _)] (grd1 rfl rfl rfl hgc2) ⟨und1 rfl, trivial⟩ (fun hw6 => g_ldb sc23 rfl hb1 rfl) rfl ?_
  refine ow_gg [(20, _)] (grd1 rfl rfl rfl hgc2) ⟨und1 rfl, trivial⟩ (fun hw7 => g_len Try.underlying23 rfl (by first | assumption | exact Own.rd (by assumption) | exact Rd.keep0 (by assumption) hB | exact Own.rd (Own.keep0 (by assumption) hB))) rfl ?_
  refine ow_gg [(21, _)] (grd1 rfl rfl rfl hgc2) ⟨und1 rfl, trivial⟩ (fun hw8 => g_gt rfl rfl) rfl ?_
  refine ow_g (g_por rfl rfl hgc2) rfl ?_
  refine ow_nil ?_
  refine tw_keep [(1, _), (23, _)] ⟨rfl, rfl, trivial⟩ ?_
  refine tw_cond rfl (fun hc1 => ?_) (fun hc1 => ?_)
  · -- yes
    have hd1 := hc1
    try (simp only [Bool.and_eq_true, Bool.or_eq_true, decide_eq_true_eq, Bool.and_eq_false_iff, Bool.or_eq_false_iff, decide_eq_false_iff_not, Bool.not_eq_true', Bool.not_eq_false', Bool.not_eq_true, Bool.not_eq_false, ne_eq, Decidable.not_not, decide_true, decide_false, Bool.true_and, Bool.false_and, Bool.or_false, Bool.false_or, not_true_eq_false, false_or, or_false, true_and, and_true, not_false_eq_true, reduceCtorEq] at hd1)
    refine tw_seq ?_
    refine tw_region ?_
    refine ow_g (g_as rfl) rfl ?_
    refine ow_g (g_as rfl) rfl ?_
    refine ow_nil ?_
    refine tw_ret2 hfin Try.results9 rfl rfl ?_
    have hbad : welOk ss info = false := bad_len (by omega)
    exact ⟨_, by unfold welE; rw [hbad]; rfl, by unfold welB; rw [hbad]; exact own_nil _ _ _ _, hB⟩
  · -- no
    have hd2 := hc1
    try (simp only [Bool.and_eq_true, Bool.or_eq_true, decide_eq_true_eq, Bool.and_eq_false_iff, Bool.or_eq_false_iff, decide_eq_false_iff_not, Bool.not_eq_true', Bool.not_eq_false', Bool.not_eq_true, Bool.not_eq_false, ne_eq, Decidable.not_not, decide_true, decide_false, Bool.true_and, Bool.false_and, Bool.or_false, Bool.false_or, not_true_eq_false, false_or, or_false, true_and, and_true, not_false_eq_true, reduceCtorEq] at hd2)
    refine tw_skip ?_
    refine tw_seq ?_
    refine tw_region ?_
    refine ow_g (g_as rfl) rfl ?_
    refine ow_nil ?_
    refine tw_seq ?_
    refine tw_region ?_
    refine ow_g (g_as rfl) rfl ?_
    refine ow_nil ?_
    refine tw_seq ?_
    refine tw_seq ?_
    refine tw_region ?_
    refine ow_g (g_faE 0 Try.underlying29 rfl ty27 (by decide) rfl rfl) rfl ?_
    refine ow_g (g_ldb sc27 rfl hb1 rfl) rfl ?_
    refine ow_g (g_len Try.underlying27 rfl (by first | assumption | exact Own.rd (by assumption) | exact Rd.keep0 (by assumption) hB | exact Own.rd (Own.keep0 (by assumption) hB))) rfl ?_
    refine ow_g (g_mv rfl) rfl ?_
    refine ow_nil ?_
    refine tw_block ?_
    refine tw_loop (Γ := Nat × Value) (fun ⟨i, o⟩ => [(1, .pointer (some ⟨b1, 0, none⟩)), (4, .int .i64 (triN (ss.take i) : Int)), (5, o), (25, sv), (26, .int .i64 (ss.length : Int)), (27, .int .i64 (i : Int))]) (fun ⟨i, o⟩ W => i ≤ ss.length ∧ (ss.take i).all triOk = true ∧ triN (ss.take i) ≤ 60000 ∧ OwnB W (b1 + 1) o ((ss.take i).flatMap triB) ∧ Bk W b1 29 [sv, iv] ∧ Keep [] w W) (fun ⟨i, o⟩ => ss.length - i) ⟨0, .slice none 0 0⟩ ⟨rfl, rfl, rfl, rfl, rfl, rfl, trivial⟩ (⟨by omega, by simp, by simp [triN], own_nil _ _ _ _, hb1, hB⟩) ?_
    rintro ⟨i, o⟩ w2 ⟨hi0, hall, htot, ow, hbx1, hB⟩
    refine tw_keep [(1, .pointer (some ⟨b1, 0, none⟩)), (4, .int .i64 (triN (ss.take i) : Int)), (5, o), (25, sv), (26, .int .i64 (ss.length : Int)), (27, .int .i64 (i : Int))] ⟨rfl, rfl, rfl, rfl, rfl, rfl, trivial⟩ ?_
    have u_ow := ow.blk
    refine tw_seq ?_
    refine tw_region ?_
    refine ow_g (g_lt rfl rfl) rfl ?_
    refine ow_nil ?_
    refine tw_seq ?_
    refine tw_if rfl (fun hc2 => ?_) (fun hc2 => ?_)
    · -- yes
      refine tw_skip ?_
      refine tw_seq ?_
      refine tw_block ?_
      refine tw_seq ?_
      refine tw_region ?_
      obtain ⟨x, r, e, b, hx, hd, hr, he, hb0⟩ := tri_at hEl (i := i) (by omega)
      have hxs := hsm x (List.mem_of_getElem? hx)
      refine ow_g (g_ix Try.underlying27 ty98 rfl (by first | assumption | exact Own.rd (by assumption) | exact Rd.keep0 (by assumption) hB | exact Own.rd (Own.keep0 (by assumption) hB)) rfl (by omega)) rfl ?_
      refine ow_g (g_ldae (cs' := [r, e, b]) ag98 ty98 rfl (Rd.keep0 hsl hB) hd rfl (by decide)) rfl ?_
      refine ow_d (d_alloc ty98) rfl ?_
      rintro _ w3 ⟨b2, rfl, eb2, hb2, k2, z2⟩
      have ge_b2 : w.heap.size ≤ b2 := by have := hB.size; omega
      have sb_b2_ow := fun x hx => (show x ≠ b2 from by have := (ow.blk x hx).2; omega)
      have ne_b1_b2 : b1 ≠ b2 := by have := hbx1.lt; omega
      replace ow := ow.keep0 k2
      replace hbx1 := hbx1.keep0 k2
      replace hB := hB.trans k2
      clear eb2 z2
      refine ow_d0 (d_sta ty98 rfl rfl rfl (by simp only [List.forall_mem_cons]; refine ⟨(by first | rfl | exact Rd.one (by first | assumption | exact Own.rd (by assumption) | exact Rd.keep0 (by assumption) hB | exact Own.rd (Own.keep0 (by assumption) hB))), (by first | rfl | exact Rd.one (by first | assumption | exact Own.rd (by assumption) | exact Rd.keep0 (by assumption) hB | exact Own.rd (Own.keep0 (by assumption) hB))), (by first | rfl | exact Rd.one (by first | assumption | exact Own.rd (by assumption) | exact Rd.keep0 (by assumption) hB | exact Own.rd (Own.keep0 (by assumption) hB))), fun v hv => by cases hv⟩) hb2 rfl) ?_
      rintro _ w4 ⟨hb3, k3, z3⟩
      replace ow := ow.keep k3 (fun x hx hm => sb_b2_ow x hx (List.mem_singleton.1 hm))
      replace hbx1 := hbx1.keep k3 (fun hm => absurd (List.mem_singleton.1 hm) ne_b1_b2)
      replace hB := hB.new k3 (fun x hx => .inl ((List.mem_singleton.1 hx) ▸ ge_b2))
      clear z3
      replace hb3 : Bk w4 b2 _ [r, e, b] := hb3
      refine ow_nil ?_
      refine tw_seq ?_
      refine tw_seq ?_
      refine tw_region ?_
      refine ow_g (g_mv rfl) rfl ?_
      refine ow_g (g_faE 2 Try.underlying98 rfl ty23 (by decide) rfl rfl) rfl ?_
      refine ow_g (g_ldb sc23 rfl hb3 rfl) rfl ?_
      refine ow_g (g_len Try.underlying23 rfl (by first | assumption | exact Own.rd (by assumption) | exact Rd.keep0 (by assumption) hB | exact Own.rd (Own.keep0 (by assumption) hB))) rfl ?_
      refine ow_g (g_add rfl rfl (by omega)) rfl ?_
      have hnt := triN_take hx
      refine ow_g (v := .int .i64 (triN (ss.take (i + 1)) : Int)) (by rw [show ((triN (ss.take (i + 1)) : Nat) : Int) = (triN (ss.take i) : Int) + (70 + (x.2.2.length : Int)) by omega]; exact g_add rfl rfl (by omega)) rfl ?_
      refine ow_g (g_as rfl) rfl ?_
      refine ow_nil ?_
      refine tw_seq ?_
      refine tw_region ?_
      refine ow_g (g_faE 0 Try.underlying98 rfl ty23 (by decide) rfl rfl) rfl ?_
      refine ow_g (g_ldb sc23 rfl hb3 rfl) rfl ?_
      refine ow_g (g_len Try.underlying23 rfl (by first | assumption | exact Own.rd (by assumption) | exact Rd.keep0 (by assumption) hB | exact Own.rd (Own.keep0 (by assumption) hB))) rfl ?_
      refine ow_g (g_ne rfl rfl) rfl ?_
      refine ow_g (g_mv rfl) rfl ?_
      refine ow_grp 41 false rfl (fun c3 hgc3 => ?_)
      refine ow_gg [(7, _)] (grd1 rfl rfl rfl hgc3) ⟨und0 rfl, trivial⟩ (fun hw9 => g_faE 1 Try.underlying98 rfl ty23 (by decide) rfl rfl) rfl ?_
      refine ow_gg [(42, _)] (grd1 rfl rfl rfl hgc3) ⟨und1 rfl, trivial⟩ (fun hw10 => g_ldb sc23 rfl hb3 rfl) rfl ?_
      refine ow_gg [(43, _)] (grd1 rfl rfl rfl hgc3) ⟨und1 rfl, trivial⟩ (fun hw11 => g_len Try.underlying23 rfl (by first | assumption | exact Own.rd (by assumption) | exact Rd.keep0 (by assumption) hB | exact Own.rd (Own.keep0 (by assumption) hB))) rfl ?_
      refine ow_gg [(44, _)] (grd1 rfl rfl rfl hgc3) ⟨und1 rfl, trivial⟩ (fun hw12 => g_ne rfl rfl) rfl ?_
      refine ow_g (g_por rfl rfl hgc3) rfl ?_
      refine ow_g (g_mv rfl) rfl ?_
      refine ow_grp 47 false rfl (fun c4 hgc4 => ?_)
      refine ow_gg [(7, _)] (grd1 rfl rfl rfl hgc4) ⟨und0 rfl, trivial⟩ (fun hw13 => g_faE 2 Try.underlying98 rfl ty23 (by decide) rfl rfl) rfl ?_
      refine ow_gg [(48, _)] (grd1 rfl rfl rfl hgc4) ⟨und1 rfl, trivial⟩ (fun hw14 => g_ldb sc23 rfl hb3 rfl) rfl ?_
      refine ow_gg [(49, _)] (grd1 rfl rfl rfl hgc4) ⟨und1 rfl, trivial⟩ (fun hw15 => g_len Try.underlying23 rfl (by first | assumption | exact Own.rd (by assumption) | exact Rd.keep0 (by assumption) hB | exact Own.rd (Own.keep0 (by assumption) hB))) rfl ?_
      refine ow_gg [(50, _)] (grd1 rfl rfl rfl hgc4) ⟨und1 rfl, trivial⟩ (fun hw16 => g_gt rfl rfl) rfl ?_
      refine ow_g (g_por rfl rfl hgc4) rfl ?_
      refine ow_g (g_mv rfl) rfl ?_
      refine ow_grp 53 false rfl (fun c5 hgc5 => ?_)
      refine ow_gg [(4, _)] (grd1 rfl rfl rfl hgc5) ⟨und0 rfl, trivial⟩ (fun hw17 => g_mv rfl) rfl ?_
      refine ow_gg [(54, _)] (grd1 rfl rfl rfl hgc5) ⟨und1 rfl, trivial⟩ (fun hw18 => g_gt rfl rfl) rfl ?_
      refine ow_g (g_por rfl rfl hgc5) rfl ?_
      refine ow_nil ?_
      refine tw_keep [(1, _), (4, _), (5, _), (25, _), (26, _), (27, _), (7, _), (56, _)] ⟨rfl, rfl, rfl, rfl, rfl, rfl, rfl, rfl, trivial⟩ ?_
      refine tw_cond rfl (fun hc3 => ?_) (fun hc3 => ?_)
      · -- yes
        have hd3 := hc3
        try (simp only [Bool.and_eq_true, Bool.or_eq_true, decide_eq_true_eq, Bool.and_eq_false_iff, Bool.or_eq_false_iff, decide_eq_false_iff_not, Bool.not_eq_true', Bool.not_eq_false', Bool.not_eq_true, Bool.not_eq_false, ne_eq, Decidable.not_not, decide_true, decide_false, Bool.true_and, Bool.false_and, Bool.or_false, Bool.false_or, not_true_eq_false, false_or, or_false, true_and, and_true, not_false_eq_true, reduceCtorEq] at hd3)
        refine tw_seq ?_
        refine tw_region ?_
        refine ow_g (g_as rfl) rfl ?_
        refine ow_g (g_as rfl) rfl ?_
        refine ow_nil ?_
        refine tw_ret2 hfin Try.results9 rfl rfl ?_
        have hbad : welOk ss info = false := by
          by_cases hok : triOk x = true
          · exact bad_sum (i + 1) (by have := triOk_iff.1 hok; omega)
          · exact bad_at hx (by simpa using hok)
        exact ⟨_, by unfold welE; rw [hbad]; rfl, by unfold welB; rw [hbad]; exact own_nil _ _ _ _, hB⟩
      · -- no
        have hd4 := hc3
        try (simp only [Bool.and_eq_true, Bool.or_eq_true, decide_eq_true_eq, Bool.and_eq_false_iff, Bool.or_eq_false_iff, decide_eq_false_iff_not, Bool.not_eq_true', Bool.not_eq_false', Bool.not_eq_true, Bool.not_eq_false, ne_eq, Decidable.not_not, decide_true, decide_false, Bool.true_and, Bool.false_and, Bool.or_false, Bool.false_or, not_true_eq_false, false_or, or_false, true_and, and_true, not_false_eq_true, reduceCtorEq] at hd4)
        refine tw_skip ?_
        refine tw_region ?_
        have hok : triOk x = true := triOk_iff.2 (by omega)
        have hfl := flat_len hall
        have htl := triB_len hok
        have hvl : (vecsB [x.1, x.2.1, x.2.2]).length ≤ 30070 := by rw [vecsB_tri hok]; omega
        refine ow_g (g_mv rfl) rfl ?_
        refine ow_g (g_faE 0 Try.underlying98 rfl ty23 (by decide) rfl rfl) rfl ?_
        refine ow_g (g_ldb sc23 rfl hb3 rfl) rfl ?_
        refine ow_g (g_faE 1 Try.underlying98 rfl ty23 (by decide) rfl rfl) rfl ?_
        refine ow_g (g_ldb sc23 rfl hb3 rfl) rfl ?_
        refine ow_g (g_faE 2 Try.underlying98 rfl ty23 (by decide) rfl rfl) rfl ?_
        refine ow_g (g_ldb sc23 rfl hb3 rfl) rfl ?_
        refine ow_d (d_bsL (m := 3) (ls := [x.1, x.2.1, x.2.2]) (xs := [.tmp 59, .tmp 61, .tmp 63]) (us := [_, _, _]) Try.underlying102 ty23 rfl rfl (rdL_cons (by first | exact Rd.nil _ _ | exact (by first | assumption | exact Own.rd (by assumption) | exact Rd.keep0 (by assumption) hB | exact Own.rd (Own.keep0 (by assumption) hB))) (rdL_cons (by first | exact Rd.nil _ _ | exact (by first | assumption | exact Own.rd (by assumption) | exact Rd.keep0 (by assumption) hB | exact Own.rd (Own.keep0 (by assumption) hB))) (rdL_cons (by first | exact Rd.nil _ _ | exact (by first | assumption | exact Own.rd (by assumption) | exact Rd.keep0 (by assumption) hB | exact Own.rd (Own.keep0 (by assumption) hB))) (rdL_nil _)))) rfl rfl) rfl ?_
        rintro v1 w5 ⟨sl1, k4⟩
        replace ow := ow.keep0 k4
        replace hbx1 := hbx1.keep0 k4
        replace hb3 := hb3.keep0 k4
        replace hB := hB.trans k4
        refine ow_d (d_call (vs := [_]) rfl (gvectors_any _ _ _ _ (by assumption) (vecs_len3 (by omega) (by omega) (by omega)))) rfl ?_
        rintro v2 w6 ⟨o2, k5⟩
        have gl_o2 := hB.size
        have sb_b1_o2 := fun x hx => (show x ≠ b1 from by have h1 := (o2.blk x hx).1; have h2 := hbx1.lt; omega)
        have sb_b2_o2 := fun x hx => (show x ≠ b2 from by have h1 := (o2.blk x hx).1; have h2 := hb3.lt; omega)
        replace ow := ow.keep0 k5
        replace hbx1 := hbx1.keep0 k5
        replace hb3 := hb3.keep0 k5
        replace sl1 := sl1.keep0 k5
        replace hB := hB.trans k5
        have u_o2 := o2.blk
        have lt_o3 := hbx1.lt
        refine ow_d (d_appB Try.underlying23 ty5 rfl ow rfl (show RdB _ _ _ from o2.rd) (by first | omega | (simp only [List.length_append] at *; omega)) (by omega)) rfl ?_
        rintro v3 w7 ⟨o3, k6, lb1, _⟩
        replace hB := hB.new k6 (fun x hx => .inl (Nat.le_trans ge_b1 (Nat.le_of_lt (ow.blk x hx).1)))
        replace hbx1 := hbx1.keep k6 (fun hm => absurd (ow.blk _ hm).1 (Nat.lt_irrefl _))
        refine ow_g (g_as rfl) rfl ?_
        refine ow_nil ?_
        refine tw_keep [(1, _), (4, _), (5, _), (25, _), (26, _), (27, _)] ⟨rfl, rfl, rfl, rfl, rfl, rfl, trivial⟩ ?_
        refine tw_b ?_
        refine tw_region ?_
        refine ow_g (g_add rfl rfl (by omega)) rfl ?_
        refine ow_g (g_mv rfl) rfl ?_
        refine ow_nil ?_
        refine tw_inv (Γ := Nat × Value) ⟨i + 1, v3⟩ ⟨rfl, rfl, rfl, rfl, rfl, rfl, trivial⟩ (by (try dsimp only); omega) (⟨by omega, all_take hx hall hok, by omega, by have hh := o3; unfold OwnB; rw [flat_take hx, ← vecsB_tri hok, List.length_append]; exact hh, hbx1, hB⟩)
    · -- no
      refine tw_exit rfl ?_
      refine tw_seq ?_
      refine tw_region ?_
      have hfl := flat_len hall
      refine ow_g (g_mv rfl) rfl ?_
      refine ow_g (g_faE 1 Try.underlying29 rfl ty23 (by decide) rfl rfl) rfl ?_
      refine ow_g (g_ldb sc23 rfl hbx1 rfl) rfl ?_
      refine ow_d (d_bsL (m := 2) (ls := [(ss.take i).flatMap triB, info]) (xs := [.tmp 68, .tmp 70]) (us := [_, _]) Try.underlying102 ty23 rfl rfl (rdL_cons (by first | exact Rd.nil _ _ | exact (by first | assumption | exact Own.rd (by assumption) | exact Rd.keep0 (by assumption) hB | exact Own.rd (Own.keep0 (by assumption) hB))) (rdL_cons (by first | exact Rd.nil _ _ | exact (by first | assumption | exact Own.rd (by assumption) | exact Rd.keep0 (by assumption) hB | exact Own.rd (Own.keep0 (by assumption) hB))) (rdL_nil _))) rfl rfl) rfl ?_
      rintro v4 w8 ⟨sl2, k7⟩
      replace ow := ow.keep0 k7
      replace hbx1 := hbx1.keep0 k7
      replace hB := hB.trans k7
      refine ow_d (d_call (vs := [_]) rfl (gvectors_any _ _ _ _ (by assumption) (vecs_len2 (by omega) (by omega)))) rfl ?_
      rintro v5 w9 ⟨o5, k8⟩
      have gl_o5 := hB.size
      have sb_b1_o5 := fun x hx => (show x ≠ b1 from by have h1 := (o5.blk x hx).1; have h2 := hbx1.lt; omega)
      replace ow := ow.keep0 k8
      replace hbx1 := hbx1.keep0 k8
      replace sl2 := sl2.keep0 k8
      replace hB := hB.trans k8
      have u_o5 := o5.blk
      refine ow_g (g_as rfl) rfl ?_
      refine ow_g (g_as rfl) rfl ?_
      refine ow_nil ?_
      refine tw_keep [(2, _), (3, _)] ⟨rfl, rfl, trivial⟩ ?_
      refine tw_ret2 hfin Try.results9 rfl rfl ?_
      have e : ss.take i = ss := List.take_of_length_le (by omega)
      rw [e] at hall htot
      have hfl2 := flat_len hall
      have hgood := good_wel (info := info) (by omega) (by omega) (by omega) hall htot
      have hh := o5
      rw [e, vecsB_2 (by omega) (by omega)] at hh
      exact ⟨_, by unfold welE; rw [hgood]; rfl, by unfold welB; rw [hgood]; exact hh.lo gl_o5, hB⟩
end Go.Proofs.Ytimeclfplaonkaa.W
