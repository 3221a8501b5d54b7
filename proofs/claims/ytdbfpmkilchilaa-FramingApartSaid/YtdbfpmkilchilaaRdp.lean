import Derived.Test.YtdbfpmkilchilaaSlc
namespace Go.Proofs.Ytdbfpmkilchilaa.W
open Go Go.Eng Go.Byt
set_option linter.unusedVariables false
set_option linter.unusedSimpArgs false
/-- A reader of the program's: what is left, the first error. -/
def Rdr (w : World) (p : Nat) (rest : List UInt8) (e : Int) : Prop := ∃ bw, Bk w p 170 [bw, .int .i64 e, .bool true] ∧ RdB w bw rest ∧ ∀ x, x ∈ vblk bw → x ≠ p
theorem Rdr.lt {w : World} {p : Nat} {rest : List UInt8} {e : Int} (h : Rdr w p rest e) : p < w.heap.size := by obtain ⟨bw, hb, _⟩ := h; exact hb.lt
theorem Rdr.keep0 {w w' : World} {p : Nat} {rest : List UInt8} {e : Int} (h : Rdr w p rest e) (k : Keep [] w w') : Rdr w' p rest e := by
  obtain ⟨bw, hb, hr, hn⟩ := h; exact ⟨bw, hb.keep0 k, hr.keep0 k, hn⟩
theorem Rdr.setE {w w' : World} {p : Nat} {rest : List UInt8} {bw : Value} {e e' : Int} (hb : Bk w' p 170 (List.set [bw, .int .i64 e, .bool true] 1 (.int .i64 e'))) (hr : RdB w bw rest) (hn : ∀ x, x ∈ vblk bw → x ≠ p) (k : Keep [p] w w') : Rdr w' p rest e' :=
  ⟨bw, hb, hr.keep k (fun x hx hm => hn x hx (by simpa using hm)), hn⟩
theorem Rdr.setB {w w' : World} {p n m : Nat} {rest : List UInt8} {bw : Value} {e : Int} (hb : Bk w' p 170 (List.set [bw, .int .i64 e, .bool true] 0 (cut bw n m 1))) (hr : RdB w bw rest) (hn : ∀ x, x ∈ vblk bw → x ≠ p) (k : Keep [p] w w') (h1 : n ≤ m) (h2 : m = rest.length) : Rdr w' p (rest.drop n) e := by
  subst h2
  refine ⟨_, hb, ?_, fun x hx => hn x (vblk_cut hx)⟩
  have h3 := (hr.cutB h1 (Nat.le_refl _)).keep k (fun x hx hm => hn x (vblk_cut hx) (by simpa using hm))
  rwa [List.take_of_length_le (by simp)] at h3
theorem Rdr.back {w w' : World} {p : Nat} {rest : List UInt8} {bw bw' : Value} {e : Int} (hb : Bk w' p 170 (List.set [bw', .int .i64 e, .bool true] 0 bw)) (hr : RdB w bw rest) (hn : ∀ x, x ∈ vblk bw → x ≠ p) (k : Keep [p] w w') : Rdr w' p rest e :=
  ⟨bw, hb, hr.keep k (fun x hx hm => hn x hx (by simpa using hm)), hn⟩
set_option maxRecDepth 100000 in
theorem err_any (p : Nat) (rest : List UInt8) (e : Int) (w : World) (h : Rdr w p rest e) : Rets Try.prog 54 [.pointer (some ⟨p, 0, none⟩)] w (fun v w' => v = .int .i64 e ∧ w = w') := by
  obtain ⟨bw, hb, hr, hn⟩ := h
  refine rets_of_tw Try.func54 rfl (by decide) Try.ntmps54 rfl (fun fin _ hfin => ?_)
  refine tw_seq ?_
  refine tw_region ?_
  refine ow_g (g_as rfl) rfl ?_
  refine ow_nil ?_
  refine tw_seq ?_
  refine tw_seq ?_
  refine tw_region ?_
  refine ow_g (g_mv rfl) rfl ?_
  refine ow_g (g_nilP Try.underlying115 rfl) rfl ?_
  refine ow_g (g_mv rfl) rfl ?_
  refine ow_grp 5 false rfl (fun c1 hgc1 => ?_)
  refine ow_gg [(0, _)] (grd1 rfl rfl rfl hgc1) ⟨und0 rfl, trivial⟩ (fun hw1 => g_mv rfl) rfl ?_
  refine ow_gg [(6, _)] (grd1 rfl rfl rfl hgc1) ⟨und1 rfl, trivial⟩ (fun hw2 => g_nilc rfl) rfl ?_
  refine ow_gg [(7, _)] (grd1 rfl rfl rfl hgc1) ⟨und1 rfl, trivial⟩ (fun hw3 => g_fa Try.underlying170 rfl ty4 (by decide) rfl) rfl ?_
  refine ow_gg [(8, _)] (grd1 rfl rfl rfl hgc1) ⟨und1 rfl, trivial⟩ (fun hw4 => g_ldb sc4 rfl (by assumption) rfl) rfl ?_
  refine ow_gg [(9, _)] (grd1 rfl rfl rfl hgc1) ⟨und1 rfl, trivial⟩ (fun hw5 => g_not rfl) rfl ?_
  refine ow_g (g_por rfl rfl hgc1) rfl ?_
  refine ow_nil ?_
  refine tw_condF rfl (rfl) ?_
  refine tw_skip ?_
  refine tw_seq ?_
  refine tw_region ?_
  refine ow_g (g_mv rfl) rfl ?_
  refine ow_g (g_nilc rfl) rfl ?_
  refine ow_g (g_fa Try.underlying170 rfl ty25 (by decide) rfl) rfl ?_
  refine ow_g (g_ldb sc25 rfl (by assumption) rfl) rfl ?_
  refine ow_g (g_as rfl) rfl ?_
  refine ow_nil ?_
  refine tw_ret1 hfin Try.results54 rfl ?_
  exact ⟨rfl, rfl⟩

set_option maxRecDepth 100000 in
theorem get_any (p : Nat) (rest : List UInt8) (e size : Int) (w : World) (h : Rdr w p rest e) (hs : 0 ≤ size ∧ size ≤ rest.length) (h8 : size ≤ 7 ∨ (size = 8 ∧ (rest.getD 0 0).toNat < 64)) : Rets Try.prog 122 [.pointer (some ⟨p, 0, none⟩), .int .i64 size] w (fun v w' => v = .int .i64 (num (rest.take size.toNat)) ∧ w = w') := by
  obtain ⟨bw, hb, hr, hn⟩ := h
  have hcut0 := hr.cutB (l := 0) (hi := size.toNat) (Nat.zero_le _) (by omega)
  have hcut : RdB w (cut bw 0 size.toNat 1) (rest.take size.toNat) := by simpa using hcut0
  have hlt : (rest.take size.toNat).length = size.toNat := by rw [List.length_take]; omega
  have hbound : ∀ i : Int, 0 ≤ i → i + 1 ≤ size → 0 ≤ num (rest.take i.toNat) ∧ num (rest.take i.toNat) * 256 + 255 < 9223372036854775808 := num_take_bound hs.2 h8
  refine rets_of_tw Try.func122 rfl (by decide) Try.ntmps122 rfl (fun fin _ hfin => ?_)
  refine tw_seq ?_
  refine tw_region ?_
  refine ow_g (g_as rfl) rfl ?_
  refine ow_nil ?_
  refine tw_seq ?_
  refine tw_region ?_
  refine ow_g (g_as rfl) rfl ?_
  refine ow_nil ?_
  refine tw_seq ?_
  refine tw_seq ?_
  refine tw_region ?_
  refine ow_g (g_mv rfl) rfl ?_
  refine ow_g (g_nilc rfl) rfl ?_
  refine ow_g (g_fa Try.underlying170 rfl ty22 (by decide) rfl) rfl ?_
  refine ow_g (g_ldb sc22 rfl (by assumption) rfl) rfl ?_
  refine ow_g (g_mv rfl) rfl ?_
  refine ow_g (g_sl Try.underlying22 ty5 rfl (by first | assumption | exact Own.rd (by assumption) | exact Rd.keep0 (by assumption) hB | exact Own.rd (Own.keep0 (by assumption) hB)) (.inl ⟨rfl, rfl⟩) (.inr ⟨_, _, rfl, rfl⟩) ⟨by omega, by omega, by have := hr.vcap; omega⟩) rfl ?_
  refine ow_g (g_len Try.underlying22 rfl hcut) rfl ?_
  refine ow_g (g_mv rfl) rfl ?_
  refine ow_nil ?_
  refine tw_block ?_
  refine tw_loop (Γ := Int) (fun i => [(5, .int .i64 (num (rest.take i.toNat))), (13, cut bw 0 size.toNat 1), (14, .int .i64 (rest.take size.toNat).length), (15, .int .i64 i)]) (fun i W => 0 ≤ i ∧ i ≤ size ∧ w = W) (fun i => (size - i).toNat) 0 ⟨rfl, rfl, rfl, rfl, trivial⟩ (⟨by decide, by omega, rfl⟩) ?_
  rintro i w1 ⟨hi0, hi1, rfl⟩
  refine tw_keep [(5, .int .i64 (num (rest.take i.toNat))), (13, cut bw 0 size.toNat 1), (14, .int .i64 (rest.take size.toNat).length), (15, .int .i64 i)] ⟨rfl, rfl, rfl, rfl, trivial⟩ ?_
  refine tw_seq ?_
  refine tw_region ?_
  refine ow_g (g_lt rfl rfl) rfl ?_
  refine ow_nil ?_
  refine tw_seq ?_
  refine tw_if rfl (fun hc1 => ?_) (fun hc1 => ?_)
  · -- yes
    refine tw_skip ?_
    refine tw_seq ?_
    refine tw_block ?_
    refine tw_seq ?_
    refine tw_region ?_
    refine ow_g (g_ix Try.underlying22 ty5 rfl hcut rfl (by omega)) rfl ?_
    have hget : (rest.take size.toNat)[i.toNat]? = rest[i.toNat]? := by rw [List.getElem?_take, if_pos (by omega)]
    obtain ⟨x, hx⟩ : ∃ x, rest[i.toNat]? = some x := ⟨_, List.getElem?_eq_getElem (by omega)⟩
    have hgb : gb (rest.take size.toNat) i = x.toNat := by unfold gb; rw [List.getD_eq_getElem?_getD, hget, hx]; rfl
    have hxl := x.toNat_lt
    have hnum : num (rest.take (i + 1).toNat) = num (rest.take i.toNat) * 256 + x.toNat := by rw [show (i + 1).toNat = i.toNat + 1 from by omega, take_get hx, num_snoc]
    have hbd := hbound i hi0 (by omega)
    have hor : bits .or .i64 (num (rest.take i.toNat) * 256) x.toNat = num (rest.take (i + 1).toNat) := by rw [hnum]; exact or_add 8 (by omega) (by omega) (by omega) (by omega) (by omega) (by omega)
    refine ow_g (v := .int .u8 (x.toNat : Int)) (by rw [← hgb]; exact g_ldB sc5 rfl hcut ⟨by omega, by omega⟩) rfl ?_
    refine ow_g (g_as rfl) rfl ?_
    refine ow_nil ?_
    refine tw_region ?_
    refine ow_g (g_mv rfl) rfl ?_
    refine ow_g (g_shlic (m := 256) rfl rfl (by decide) (by decide) (by omega)) rfl ?_
    refine ow_g (g_mv rfl) rfl ?_
    refine ow_g (g_cvi (by rw [Try.underlying5]; rfl) Try.underlying3 rfl (by omega)) rfl ?_
    refine ow_g (g_or rfl rfl) rfl ?_
    refine ow_g (g_as rfl) rfl ?_
    refine ow_nil ?_
    refine tw_b ?_
    refine tw_region ?_
    refine ow_g (g_add rfl rfl (by omega)) rfl ?_
    refine ow_g (g_mv rfl) rfl ?_
    refine ow_nil ?_
    refine tw_inv (Γ := Int) (i + 1) ⟨congrArg (fun z : Int => some (Value.int .i64 z)) hor, rfl, rfl, rfl, trivial⟩ (by (try dsimp only); omega) (⟨by omega, by omega, rfl⟩)
  · -- no
    refine tw_exit rfl ?_
    refine tw_seq ?_
    refine tw_region ?_
    refine ow_g (g_mv rfl) rfl ?_
    refine ow_g (g_as rfl) rfl ?_
    refine ow_nil ?_
    refine tw_ret1 hfin Try.results122 rfl ?_
    obtain rfl : i = size := by omega
    exact ⟨rfl, rfl⟩

set_option maxRecDepth 100000 in
theorem rnumber_any (p : Nat) (rest : List UInt8) (e size : Int) (w : World) (h : Rdr w p rest e) (hs : size = 1 ∨ size = 2 ∨ size = 4 ∨ size = 8) : Rets Try.prog 72 [.pointer (some ⟨p, 0, none⟩), .int .i64 size] w (fun v w' => ∃ r, r = rNum (bitsOf size) rest e size ∧ v = .int .i64 r.1 ∧ Rdr w' p r.2.1 r.2.2 ∧ Keep [p] w w') := by
  obtain ⟨bw, hb, hr, hn⟩ := h
  have hB : Keep [p] w w := Keep.refl _ _
  have hgb0 : gb rest 0 = ((rest.getD 0 0).toNat : Int) := rfl
  have hcap := hr.vcap
  refine rets_of_tw Try.func72 rfl (by decide) Try.ntmps72 rfl (fun fin _ hfin => ?_)
  refine tw_seq ?_
  refine tw_region ?_
  refine ow_g (g_as rfl) rfl ?_
  refine ow_nil ?_
  refine tw_scope 1 ?_
  refine tw_seq ?_
  refine tw_seq ?_
  refine tw_region ?_
  refine ow_g (g_mv rfl) rfl ?_
  refine ow_d (d_call (vs := [_]) rfl (err_any _ _ _ _ (by exact ⟨bw, hb, hr, hn⟩))) rfl ?_
  rintro _ _ ⟨rfl, rfl⟩
  refine ow_g (g_ne rfl rfl) rfl ?_
  refine ow_nil ?_
  refine tw_if rfl (fun hc1 => ?_) (fun hc1 => ?_)
  · -- yes
    refine tw_seq ?_
    refine tw_region ?_
    refine ow_g (g_as rfl) rfl ?_
    refine ow_nil ?_
    refine tw_ret1 hfin Try.results72 rfl ?_
    refine ⟨(0, rest, e), ?_, rfl, ⟨bw, hb, hr, hn⟩, hB⟩
    unfold rNum
    repeat (first | rw [if_pos (by assumption)] | rw [if_neg (by assumption)] | rw [if_pos (by omega)] | rw [if_neg (by omega)])
    all_goals first | rfl | (refine Prod.ext rfl (Prod.ext rfl ?_); show _ = _; dsimp only; omega)
  · -- no
    refine tw_skip ?_
    refine tw_seq ?_
    refine tw_region ?_
    refine ow_g (g_mv rfl) rfl ?_
    refine ow_d (d_call (vs := [_]) rfl (bits_any _ _)) rfl ?_
    rintro _ w1 ⟨rfl, rfl⟩
    refine ow_g (g_as rfl) rfl ?_
    refine ow_nil ?_
    refine tw_seq ?_
    refine tw_seq ?_
    refine tw_region ?_
    refine ow_g (g_mv rfl) rfl ?_
    refine ow_g (g_lt rfl rfl) rfl ?_
    refine ow_nil ?_
    refine tw_if rfl (fun hc2 => ?_) (fun hc2 => ?_)
    · -- yes
      refine tw_seq ?_
      refine tw_region ?_
      refine ow_g (g_mv rfl) rfl ?_
      refine ow_g (g_nilc rfl) rfl ?_
      refine ow_g (g_fa Try.underlying170 rfl ty25 (by decide) rfl) rfl ?_
      refine ow_d0 (d_st ty25 rfl rfl rfl hb rfl) ?_
      rintro _ w2 ⟨hq1, k1, z1⟩
      have hR : Rdr w2 p rest 1 := Rdr.setE hq1 hr hn k1
      replace hB := hB.trans k1
      refine ow_nil ?_
      refine tw_goto rfl ?_
      refine tw_seq ?_
      refine tw_skip ?_
      refine tw_seq ?_
      refine tw_region ?_
      refine ow_g (g_mv rfl) rfl ?_
      refine ow_g (g_as rfl) rfl ?_
      refine ow_nil ?_
      refine tw_ret1 hfin Try.results72 rfl ?_
      refine ⟨(0, rest, 1), ?_, rfl, hR, hB⟩
      unfold rNum
      repeat (first | rw [if_pos (by assumption)] | rw [if_neg (by assumption)] | rw [if_pos (by omega)] | rw [if_neg (by omega)])
      all_goals first | rfl | (refine Prod.ext rfl (Prod.ext rfl ?_); show _ = _; dsimp only; omega)
    · -- no
      refine tw_skip ?_
      refine tw_seq ?_
      refine tw_seq ?_
      refine tw_region ?_
      refine ow_g (g_mv rfl) rfl ?_
      refine ow_g (g_nilc rfl) rfl ?_
      refine ow_g (g_fa Try.underlying170 rfl ty22 (by decide) rfl) rfl ?_
      refine ow_g (g_ldb sc22 rfl (by assumption) rfl) rfl ?_
      refine ow_g (g_len Try.underlying22 rfl (by first | assumption | exact Own.rd (by assumption) | exact Rd.keep0 (by assumption) hB | exact Own.rd (Own.keep0 (by assumption) hB))) rfl ?_
      refine ow_g (g_mv rfl) rfl ?_
      refine ow_g (g_lt rfl rfl) rfl ?_
      refine ow_nil ?_
      refine tw_if rfl (fun hc3 => ?_) (fun hc3 => ?_)
      · -- yes
        refine tw_seq ?_
        refine tw_region ?_
        refine ow_g (g_mv rfl) rfl ?_
        refine ow_g (g_nilc rfl) rfl ?_
        refine ow_g (g_fa Try.underlying170 rfl ty25 (by decide) rfl) rfl ?_
        refine ow_d0 (d_st ty25 rfl rfl rfl hb rfl) ?_
        rintro _ w3 ⟨hq2, k2, z2⟩
        have hR : Rdr w3 p rest 20 := Rdr.setE hq2 hr hn k2
        replace hB := hB.trans k2
        refine ow_nil ?_
        refine tw_goto rfl ?_
        refine tw_seq ?_
        refine tw_skip ?_
        refine tw_seq ?_
        refine tw_region ?_
        refine ow_g (g_mv rfl) rfl ?_
        refine ow_g (g_as rfl) rfl ?_
        refine ow_nil ?_
        refine tw_ret1 hfin Try.results72 rfl ?_
        refine ⟨(0, rest, 20), ?_, rfl, hR, hB⟩
        unfold rNum
        repeat (first | rw [if_pos (by assumption)] | rw [if_neg (by assumption)] | rw [if_pos (by omega)] | rw [if_neg (by omega)])
        all_goals first | rfl | (refine Prod.ext rfl (Prod.ext rfl ?_); show _ = _; dsimp only; omega)
      · -- no
        refine tw_skip ?_
        refine tw_seq ?_
        refine tw_seq ?_
        refine tw_region ?_
        refine ow_g (g_mv rfl) rfl ?_
        refine ow_g (g_eq rfl rfl) rfl ?_
        refine ow_g (g_mv rfl) rfl ?_
        refine ow_grp 28 true rfl (fun c1 hgc1 => ?_)
        refine ow_gg [(0, _)] (grd1 rfl rfl rfl hgc1) ⟨und0 rfl, trivial⟩ (fun hw1 => g_mv rfl) rfl ?_
        refine ow_gg [(29, _)] (grd1 rfl rfl rfl hgc1) ⟨und1 rfl, trivial⟩ (fun hw2 => g_nilc rfl) rfl ?_
        refine ow_gg [(30, _)] (grd1 rfl rfl rfl hgc1) ⟨und1 rfl, trivial⟩ (fun hw3 => g_fa Try.underlying170 rfl ty22 (by decide) rfl) rfl ?_
        refine ow_gg [(31, _)] (grd1 rfl rfl rfl hgc1) ⟨und1 rfl, trivial⟩ (fun hw4 => g_ldb sc22 rfl (by assumption) rfl) rfl ?_
        refine ow_gg [(32, _)] (grd1 rfl rfl rfl hgc1) ⟨und1 rfl, trivial⟩ (fun hw5 => g_ix Try.underlying22 ty5 rfl (by first | assumption | exact Own.rd (by assumption) | exact Rd.keep0 (by assumption) hB | exact Own.rd (Own.keep0 (by assumption) hB)) rfl (by omega)) rfl ?_
        refine ow_gg [(33, _)] (grd1 rfl rfl rfl hgc1) ⟨und1 rfl, trivial⟩ (fun hw6 => g_ldB sc5 rfl (by first | assumption | exact Own.rd (by assumption) | exact Rd.keep0 (by assumption) hB | exact Own.rd (Own.keep0 (by assumption) hB)) (by omega)) rfl ?_
        refine ow_gg [(34, _)] (grd1 rfl rfl rfl hgc1) ⟨und1 rfl, trivial⟩ (fun hw7 => g_ge rfl rfl) rfl ?_
        refine ow_g (g_pand rfl rfl hgc1) rfl ?_
        refine ow_nil ?_
        refine tw_cond rfl (fun hc4 => ?_) (fun hc4 => ?_)
        · -- yes
          have hd1 := hc4
          try (simp only [Bool.and_eq_true, Bool.or_eq_true, decide_eq_true_eq, Bool.and_eq_false_iff, Bool.or_eq_false_iff, decide_eq_false_iff_not, Bool.not_eq_true', Bool.not_eq_false', Bool.not_eq_true, Bool.not_eq_false, ne_eq, Decidable.not_not] at hd1)
          refine tw_seq ?_
          refine tw_region ?_
          refine ow_g (g_mv rfl) rfl ?_
          refine ow_g (g_nilc rfl) rfl ?_
          refine ow_g (g_fa Try.underlying170 rfl ty25 (by decide) rfl) rfl ?_
          refine ow_d0 (d_st ty25 rfl rfl rfl hb rfl) ?_
          rintro _ w4 ⟨hq3, k3, z3⟩
          have hR : Rdr w4 p rest 11 := Rdr.setE hq3 hr hn k3
          replace hB := hB.trans k3
          refine ow_nil ?_
          refine tw_goto rfl ?_
          refine tw_seq ?_
          refine tw_skip ?_
          refine tw_seq ?_
          refine tw_region ?_
          refine ow_g (g_mv rfl) rfl ?_
          refine ow_g (g_as rfl) rfl ?_
          refine ow_nil ?_
          refine tw_ret1 hfin Try.results72 rfl ?_
          refine ⟨(0, rest, 11), ?_, rfl, hR, hB⟩
          unfold rNum
          repeat (first | rw [if_pos (by assumption)] | rw [if_neg (by assumption)] | rw [if_pos (by omega)] | rw [if_neg (by omega)])
          all_goals first | rfl | (refine Prod.ext rfl (Prod.ext rfl ?_); show _ = _; dsimp only; omega)
        · -- no
          have hd2 := hc4
          try (simp only [Bool.and_eq_true, Bool.or_eq_true, decide_eq_true_eq, Bool.and_eq_false_iff, Bool.or_eq_false_iff, decide_eq_false_iff_not, Bool.not_eq_true', Bool.not_eq_false', Bool.not_eq_true, Bool.not_eq_false, ne_eq, Decidable.not_not] at hd2)
          refine tw_skip ?_
          refine tw_seq ?_
          refine tw_region ?_
          refine ow_g (g_mv rfl) rfl ?_
          refine ow_g (g_mv rfl) rfl ?_
          refine ow_d (d_call (vs := [_, _]) rfl (get_any _ rest e _ _ (by exact ⟨bw, hb, hr, hn⟩) (by omega) (by omega))) rfl ?_
          rintro _ _ ⟨rfl, rfl⟩
          refine ow_g (g_as rfl) rfl ?_
          refine ow_nil ?_
          refine tw_seq ?_
          refine tw_region ?_
          refine ow_g (g_mv rfl) rfl ?_
          refine ow_g (g_mv rfl) rfl ?_
          refine ow_g (g_nilc rfl) rfl ?_
          refine ow_g (g_fa Try.underlying170 rfl ty22 (by decide) rfl) rfl ?_
          refine ow_g (g_ldb sc22 rfl (by assumption) rfl) rfl ?_
          refine ow_g (g_mv rfl) rfl ?_
          refine ow_g (g_sl Try.underlying22 ty5 rfl (by first | assumption | exact Own.rd (by assumption) | exact Rd.keep0 (by assumption) hB | exact Own.rd (Own.keep0 (by assumption) hB)) (.inr ⟨_, _, rfl, rfl⟩) (.inl ⟨rfl, rfl⟩) ⟨by omega, by omega, by omega⟩) rfl ?_
          refine ow_g (g_nilc rfl) rfl ?_
          refine ow_g (g_fa Try.underlying170 rfl ty22 (by decide) rfl) rfl ?_
          refine ow_d0 (d_st ty22 rfl rfl hr.cutOne hb rfl) ?_
          rintro _ w5 ⟨hq4, k4, z4⟩
          have hR : Rdr w5 p (rest.drop size.toNat) e := Rdr.setB hq4 hr hn k4 (by omega) (by omega)
          replace hB := hB.trans k4
          refine ow_nil ?_
          refine tw_seq ?_
          refine tw_label ?_
          refine tw_seq ?_
          refine tw_region ?_
          refine ow_g (g_mv rfl) rfl ?_
          refine ow_g (g_as rfl) rfl ?_
          refine ow_nil ?_
          refine tw_ret1 hfin Try.results72 rfl ?_
          refine ⟨(num (rest.take size.toNat), rest.drop size.toNat, e), ?_, rfl, hR, hB⟩
          unfold rNum
          repeat (first | rw [if_pos (by assumption)] | rw [if_neg (by assumption)] | rw [if_pos (by omega)] | rw [if_neg (by omega)])
          all_goals first | rfl | (refine Prod.ext rfl (Prod.ext rfl ?_); show _ = _; dsimp only; omega)

set_option maxRecDepth 100000 in
theorem rlength_any (p : Nat) (rest : List UInt8) (e : Int) (w : World) (h : Rdr w p rest e) : Rets Try.prog 102 [.pointer (some ⟨p, 0, none⟩)] w (fun v w' => ∃ r, r = rLen rest e ∧ v = .int .i64 r.1 ∧ Rdr w' p r.2.1 r.2.2 ∧ Keep [p] w w') := by
  obtain ⟨bw, hb, hr, hn⟩ := h
  have hB : Keep [p] w w := Keep.refl _ _
  have hgb0 : gb rest 0 = ((rest.getD 0 0).toNat : Int) := rfl
  have hcap := hr.vcap
  have hgr := gb_range rest 0
  have ht3 : top rest = (rest.getD 0 0).toNat / 64 := rfl
  have hnb : ∀ n, n ≤ 7 → 0 ≤ num (rest.take n) ∧ num (rest.take n) < 9223372036854775808 := num_small rest
  have htop0 : rest.length = 0 → top rest = 0 := by intro h0; rw [List.length_eq_zero_iff] at h0; subst h0; rfl
  refine rets_of_tw Try.func102 rfl (by decide) Try.ntmps102 rfl (fun fin _ hfin => ?_)
  refine tw_seq ?_
  refine tw_region ?_
  refine ow_g (g_as rfl) rfl ?_
  refine ow_nil ?_
  refine tw_scope 1 ?_
  refine tw_seq ?_
  refine tw_seq ?_
  refine tw_region ?_
  refine ow_g (g_mv rfl) rfl ?_
  refine ow_d (d_call (vs := [_]) rfl (err_any _ _ _ _ (by exact ⟨bw, hb, hr, hn⟩))) rfl ?_
  rintro _ _ ⟨rfl, rfl⟩
  refine ow_g (g_ne rfl rfl) rfl ?_
  refine ow_nil ?_
  refine tw_if rfl (fun hc1 => ?_) (fun hc1 => ?_)
  · -- yes
    refine tw_seq ?_
    refine tw_region ?_
    refine ow_g (g_as rfl) rfl ?_
    refine ow_nil ?_
    refine tw_ret1 hfin Try.results102 rfl ?_
    refine ⟨(0, rest, e), ?_, rfl, ⟨bw, hb, hr, hn⟩, hB⟩
    unfold rLen
    try rw [htop]
    try simp only [Nat.reducePow, Nat.reduceMul, Nat.reduceSub, Int.reducePow]
    repeat (first | rw [if_pos (by assumption)] | rw [if_neg (by assumption)] | rw [if_pos (by omega)] | rw [if_neg (by omega)])
    all_goals first | rfl | (refine Prod.ext rfl (Prod.ext rfl ?_); show _ = _; dsimp only; omega)
  · -- no
    refine tw_skip ?_
    refine tw_seq ?_
    refine tw_region ?_
    refine ow_g (g_as rfl) rfl ?_
    refine ow_g (g_as rfl) rfl ?_
    refine ow_nil ?_
    refine tw_seq ?_
    refine tw_seq ?_
    refine tw_region ?_
    refine ow_g (g_mv rfl) rfl ?_
    refine ow_g (g_nilc rfl) rfl ?_
    refine ow_g (g_fa Try.underlying170 rfl ty22 (by decide) rfl) rfl ?_
    refine ow_g (g_ldb sc22 rfl (by assumption) rfl) rfl ?_
    refine ow_g (g_len Try.underlying22 rfl (by first | assumption | exact Own.rd (by assumption) | exact Rd.keep0 (by assumption) hB | exact Own.rd (Own.keep0 (by assumption) hB))) rfl ?_
    refine ow_g (g_gt rfl rfl) rfl ?_
    refine ow_nil ?_
    refine tw_if rfl (fun hc2 => ?_) (fun hc2 => ?_)
    · -- yes
      refine tw_seq ?_
      refine tw_region ?_
      refine ow_g (g_mv rfl) rfl ?_
      refine ow_g (g_nilc rfl) rfl ?_
      refine ow_g (g_fa Try.underlying170 rfl ty22 (by decide) rfl) rfl ?_
      refine ow_g (g_ldb sc22 rfl (by assumption) rfl) rfl ?_
      refine ow_g (g_ix Try.underlying22 ty5 rfl (by first | assumption | exact Own.rd (by assumption) | exact Rd.keep0 (by assumption) hB | exact Own.rd (Own.keep0 (by assumption) hB)) rfl (by omega)) rfl ?_
      refine ow_g (g_ldB sc5 rfl (by first | assumption | exact Own.rd (by assumption) | exact Rd.keep0 (by assumption) hB | exact Own.rd (Own.keep0 (by assumption) hB)) (by omega)) rfl ?_
      refine ow_g (g_shrc (m := 64) rfl rfl (by decide) (by decide)) rfl ?_
      refine ow_g (g_cvi (by rw [Try.underlying5]; rfl) Try.underlying3 rfl (by omega)) rfl ?_
      refine ow_g (g_as rfl) rfl ?_
      refine ow_nil ?_
      rcases (show gb rest 0 / 64 = 0 ∨ gb rest 0 / 64 = 1 ∨ gb rest 0 / 64 = 2 ∨ gb rest 0 / 64 = 3 by omega) with hq | hq | hq | hq
      · have htop : top rest = 0 := by omega
        rw [hq]
        refine tw_region ?_
        refine ow_g (g_mv rfl) rfl ?_
        refine ow_g (g_fold (j := 1) (g_shl rfl rfl (by decide)) (by decide)) rfl ?_
        refine ow_g (g_as rfl) rfl ?_
        refine ow_nil ?_
        refine tw_seq ?_
        refine tw_seq ?_
        refine tw_region ?_
        refine ow_g (g_mv rfl) rfl ?_
        refine ow_g (g_eq rfl rfl) rfl ?_
        refine ow_nil ?_
        refine tw_ifF rfl (by decide) ?_
        refine tw_skip ?_
        refine tw_seq ?_
        refine tw_seq ?_
        refine tw_region ?_
        refine ow_g (g_mv rfl) rfl ?_
        refine ow_g (g_nilc rfl) rfl ?_
        refine ow_g (g_fa Try.underlying170 rfl ty22 (by decide) rfl) rfl ?_
        refine ow_g (g_ldb sc22 rfl (by assumption) rfl) rfl ?_
        refine ow_g (g_len Try.underlying22 rfl (by first | assumption | exact Own.rd (by assumption) | exact Rd.keep0 (by assumption) hB | exact Own.rd (Own.keep0 (by assumption) hB))) rfl ?_
        refine ow_g (g_mv rfl) rfl ?_
        refine ow_g (g_lt rfl rfl) rfl ?_
        refine ow_nil ?_
        refine tw_if rfl (fun hc3 => ?_) (fun hc3 => ?_)
        · -- yes
          refine tw_seq ?_
          refine tw_region ?_
          refine ow_g (g_mv rfl) rfl ?_
          refine ow_g (g_nilc rfl) rfl ?_
          refine ow_g (g_fa Try.underlying170 rfl ty25 (by decide) rfl) rfl ?_
          refine ow_d0 (d_st ty25 rfl rfl rfl hb rfl) ?_
          rintro _ w1 ⟨hq1, k1, z1⟩
          have hR : Rdr w1 p rest 20 := Rdr.setE hq1 hr hn k1
          replace hB := hB.trans k1
          refine ow_nil ?_
          refine tw_goto rfl ?_
          refine tw_seq ?_
          refine tw_skip ?_
          refine tw_seq ?_
          refine tw_region ?_
          refine ow_g (g_mv rfl) rfl ?_
          refine ow_g (g_as rfl) rfl ?_
          refine ow_nil ?_
          refine tw_ret1 hfin Try.results102 rfl ?_
          refine ⟨(0, rest, 20), ?_, rfl, hR, hB⟩
          unfold rLen
          try rw [htop]
          try simp only [Nat.reducePow, Nat.reduceMul, Nat.reduceSub, Int.reducePow]
          repeat (first | rw [if_pos (by assumption)] | rw [if_neg (by assumption)] | rw [if_pos (by omega)] | rw [if_neg (by omega)])
          all_goals first | rfl | (refine Prod.ext rfl (Prod.ext rfl ?_); show _ = _; dsimp only; omega)
        · -- no
          refine tw_skip ?_
          refine tw_seq ?_
          refine tw_drawn mixed [(0, _), (3, _), (5, _), (6, _), (7, _), (4, _), (8, _), (9, _), (10, _), (11, _), (12, _), (13, _), (14, _), (15, _), (16, _), (17, _), (18, _), (19, _), (20, _), (21, _), (22, _), (23, _), (24, _), (25, _), (29, _), (30, _), (31, _), (32, _), (33, _), (34, _), (35, _)] (fun i v W => match i with | 0 => v = .pointer (some ⟨p, 0, none⟩) | 1 => v = .int .i64 1 | 2 => v = .int .i64 (num (rest.take 1)) | 3 => v = .int .i64 1 | 4 => v = .int .i64 8 | 5 => v = .int .i64 6 | 6 => v = .int .i64 64 | 7 => v = .int .i64 63 | 8 => v = .int .i64 (bits .and .i64 (num (rest.take 1)) 63) | 9 => v = .int .i64 (bits .and .i64 (num (rest.take 1)) 63) | _ => True) ⟨rfl, rfl, rfl, rfl, rfl, rfl, rfl, rfl, rfl, rfl, rfl, rfl, rfl, rfl, rfl, rfl, rfl, rfl, rfl, rfl, rfl, rfl, rfl, rfl, rfl, rfl, rfl, rfl, rfl, rfl, rfl, trivial⟩ (by decide) rfl ?_ ?_ ?_
          · intro i v W W' h k
            match i, h with
            | 0, h => exact h
            | 1, h => exact h
            | 2, h => exact h
            | 3, h => exact h
            | 4, h => exact h
            | 5, h => exact h
            | 6, h => exact h
            | 7, h => exact h
            | 8, h => exact h
            | 9, h => exact h
            | _ + 10, _ => trivial
          · refine ⟨?_, ?_, ?_, ?_, ?_, ?_, ?_, ?_, ?_, ?_, trivial⟩
            · refine ⟨[], rfl, ?_⟩; rintro W1 hk vs hd
              replace hB := hB.trans hk.weak
              refine ⟨true, fun a _ => rfl, fun _ => ?_, fun h => by cases h⟩
              refine does_sub [(0, _)] ⟨rfl, trivial⟩ ?_
              refine (Gives.does (g_mv rfl)).mono ?_
              rintro v W2 ⟨rfl, rfl⟩
              exact ⟨Keep.refl _ _, rfl⟩
            · refine ⟨[], rfl, ?_⟩; rintro W1 hk vs hd
              replace hB := hB.trans hk.weak
              refine ⟨true, fun a _ => rfl, fun _ => ?_, fun h => by cases h⟩
              refine does_sub [(3, _)] ⟨rfl, trivial⟩ ?_
              refine (Gives.does (g_mv rfl)).mono ?_
              rintro v W2 ⟨rfl, rfl⟩
              exact ⟨Keep.refl _ _, rfl⟩
            · refine ⟨[0, 1], rfl, ?_⟩; rintro W1 hk vs hd
              have d0 : (vs 0) = .pointer (some ⟨p, 0, none⟩) := hd 0 (by decide)
              have d1 : (vs 1) = .int .i64 1 := hd 1 (by decide)
              replace hB := hB.trans hk.weak
              refine ⟨true, fun a _ => rfl, fun _ => ?_, fun h => by cases h⟩
              refine does_sub [(39, .pointer (some ⟨p, 0, none⟩)), (40, .int .i64 1)] ⟨congrArg some d0, congrArg some d1, trivial⟩ ?_
              refine (d_call (vs := [_, _]) rfl (get_any _ rest e _ W1 (Rdr.keep0 (by exact ⟨bw, hb, hr, hn⟩) hk) (by omega) (by omega))).mono ?_
              rintro v W2 ⟨rfl, rfl⟩
              exact ⟨Keep.refl _ _, rfl⟩
            · refine ⟨[], rfl, ?_⟩; rintro W1 hk vs hd
              replace hB := hB.trans hk.weak
              refine ⟨true, fun a _ => rfl, fun _ => ?_, fun h => by cases h⟩
              refine does_sub [(3, _)] ⟨rfl, trivial⟩ ?_
              refine (Gives.does (g_mv rfl)).mono ?_
              rintro v W2 ⟨rfl, rfl⟩
              exact ⟨Keep.refl _ _, rfl⟩
            · refine ⟨[3], rfl, ?_⟩; rintro W1 hk vs hd
              have d3 : (vs 3) = .int .i64 1 := hd 3 (by decide)
              replace hB := hB.trans hk.weak
              refine ⟨true, fun a _ => rfl, fun _ => ?_, fun h => by cases h⟩
              refine does_sub [(42, .int .i64 1)] ⟨congrArg some d3, trivial⟩ ?_
              refine (Gives.does (g_fold (j := 8) (g_mulw rfl rfl) (by decide))).mono ?_
              rintro v W2 ⟨rfl, rfl⟩
              exact ⟨Keep.refl _ _, rfl⟩
            · refine ⟨[4], rfl, ?_⟩; rintro W1 hk vs hd
              have d4 : (vs 4) = .int .i64 8 := hd 4 (by decide)
              replace hB := hB.trans hk.weak
              refine ⟨true, fun a _ => rfl, fun _ => ?_, fun h => by cases h⟩
              refine does_sub [(43, .int .i64 8)] ⟨congrArg some d4, trivial⟩ ?_
              refine (Gives.does (g_fold (j := 6) (g_subw rfl rfl) (by decide))).mono ?_
              rintro v W2 ⟨rfl, rfl⟩
              exact ⟨Keep.refl _ _, rfl⟩
            · refine ⟨[5], rfl, ?_⟩; rintro W1 hk vs hd
              have d5 : (vs 5) = .int .i64 6 := hd 5 (by decide)
              replace hB := hB.trans hk.weak
              refine ⟨true, fun a _ => rfl, fun _ => ?_, fun h => by cases h⟩
              refine does_sub [(44, .int .i64 6)] ⟨congrArg some d5, trivial⟩ ?_
              refine (Gives.does (g_fold (j := 64) (g_shl rfl rfl (by decide)) (by decide))).mono ?_
              rintro v W2 ⟨rfl, rfl⟩
              exact ⟨Keep.refl _ _, rfl⟩
            · refine ⟨[6], rfl, ?_⟩; rintro W1 hk vs hd
              have d6 : (vs 6) = .int .i64 64 := hd 6 (by decide)
              replace hB := hB.trans hk.weak
              refine ⟨true, fun a _ => rfl, fun _ => ?_, fun h => by cases h⟩
              refine does_sub [(45, .int .i64 64)] ⟨congrArg some d6, trivial⟩ ?_
              refine (Gives.does (g_fold (j := 63) (g_subw rfl rfl) (by decide))).mono ?_
              rintro v W2 ⟨rfl, rfl⟩
              exact ⟨Keep.refl _ _, rfl⟩
            · refine ⟨[2, 7], rfl, ?_⟩; rintro W1 hk vs hd
              have d2 : (vs 2) = .int .i64 (num (rest.take 1)) := hd 2 (by decide)
              have d7 : (vs 7) = .int .i64 63 := hd 7 (by decide)
              replace hB := hB.trans hk.weak
              refine ⟨true, fun a _ => rfl, fun _ => ?_, fun h => by cases h⟩
              refine does_sub [(41, .int .i64 (num (rest.take 1))), (46, .int .i64 63)] ⟨congrArg some d2, congrArg some d7, trivial⟩ ?_
              refine (Gives.does (g_and rfl rfl)).mono ?_
              rintro v W2 ⟨rfl, rfl⟩
              exact ⟨Keep.refl _ _, rfl⟩
            · refine ⟨[8], rfl, ?_⟩; rintro W1 hk vs hd
              have d8 : (vs 8) = .int .i64 (bits .and .i64 (num (rest.take 1)) 63) := hd 8 (by decide)
              replace hB := hB.trans hk.weak
              refine ⟨true, fun a _ => rfl, fun _ => ?_, fun h => by cases h⟩
              refine does_sub [(47, .int .i64 (bits .and .i64 (num (rest.take 1)) 63))] ⟨congrArg some d8, trivial⟩ ?_
              refine (Gives.does (g_as rfl)).mono ?_
              rintro v W2 ⟨rfl, rfl⟩
              exact ⟨Keep.refl _ _, rfl⟩
          rintro w2 k2 vs hv
          have z_k2 := k2.size
          replace hB := hB.trans k2.weak
          have e2 : (vs 9) = .int .i64 (bits .and .i64 (num (rest.take 1)) 63) := hv 9 (by decide) rfl
          refine tw_keep [(2, .int .i64 (bits .and .i64 (num (rest.take 1)) 63)), (0, _), (3, _), (5, _), (6, _), (7, _), (4, _), (8, _), (9, _), (10, _), (11, _), (12, _), (13, _), (14, _), (15, _), (16, _), (17, _), (18, _), (19, _), (20, _), (21, _), (22, _), (23, _), (24, _), (25, _), (29, _), (30, _), (31, _), (32, _), (33, _), (34, _), (35, _)] ⟨congrArg some e2, rfl, rfl, rfl, rfl, rfl, rfl, rfl, rfl, rfl, rfl, rfl, rfl, rfl, rfl, rfl, rfl, rfl, rfl, rfl, rfl, rfl, rfl, rfl, rfl, rfl, rfl, rfl, rfl, rfl, rfl, rfl, trivial⟩ ?_
          replace hb := hb.keep0 k2; replace hr := hr.keep0 k2
          have hmask : bits .and .i64 (num (rest.take 1)) 63 = num (rest.take 1) % 64 := by exact and_mask 6 (by decide) (hnb 1 (by decide)).1 (hnb 1 (by decide)).2
          rw [hmask]
          refine tw_seq ?_
          refine tw_seq ?_
          refine tw_region ?_
          refine ow_g (g_mv rfl) rfl ?_
          refine ow_g (g_gt rfl rfl) rfl ?_
          refine ow_g (g_mv rfl) rfl ?_
          refine ow_grp 50 true rfl (fun c1 hgc1 => ?_)
          refine ow_gg [(2, _)] (grd1 rfl rfl rfl hgc1) ⟨und0 rfl, trivial⟩ (fun hw1 => g_mv rfl) rfl ?_
          refine ow_gg [(3, _)] (grd1 rfl rfl rfl hgc1) ⟨und0 rfl, trivial⟩ (fun hw2 => g_mv rfl) rfl ?_
          refine ow_gg [(52, _)] (grd1 rfl rfl rfl hgc1) ⟨und1 rfl, trivial⟩ (fun hw3 => g_fold (j := 4) (g_mulw rfl rfl) (by decide)) rfl ?_
          refine ow_gg [(53, _)] (grd1 rfl rfl rfl hgc1) ⟨und1 rfl, trivial⟩ (fun hw4 => g_fold (j := 2) (g_subw rfl rfl) (by decide)) rfl ?_
          refine ow_gg [(51, _), (54, _)] (grd1 rfl rfl rfl hgc1) ⟨und1 rfl, und1 rfl, trivial⟩ (fun hw5 => g_shrc (m := 4) rfl rfl (by decide) (by decide)) rfl ?_
          refine ow_gg [(55, _)] (grd1 rfl rfl rfl hgc1) ⟨und1 rfl, trivial⟩ (fun hw6 => g_eq rfl rfl) rfl ?_
          refine ow_g (g_pand rfl rfl hgc1) rfl ?_
          refine ow_nil ?_
          refine tw_cond rfl (fun hc4 => ?_) (fun hc4 => ?_)
          · -- yes
            have hd1 := hc4
            try (simp only [Bool.and_eq_true, Bool.or_eq_true, decide_eq_true_eq, Bool.and_eq_false_iff, Bool.or_eq_false_iff, decide_eq_false_iff_not, Bool.not_eq_true', Bool.not_eq_false', Bool.not_eq_true, Bool.not_eq_false, ne_eq, Decidable.not_not] at hd1)
            refine tw_seq ?_
            refine tw_region ?_
            refine ow_g (g_mv rfl) rfl ?_
            refine ow_g (g_as rfl) rfl ?_
            refine ow_g (g_nilc rfl) rfl ?_
            refine ow_g (g_fa Try.underlying170 rfl ty25 (by decide) rfl) rfl ?_
            refine ow_d0 (d_st ty25 rfl rfl rfl hb rfl) ?_
            rintro _ w3 ⟨hq2, k3, z2⟩
            have hR : Rdr w3 p rest 21 := Rdr.setE hq2 hr hn k3
            replace hB := hB.trans k3
            refine ow_nil ?_
            refine tw_goto rfl ?_
            refine tw_seq ?_
            refine tw_skip ?_
            refine tw_seq ?_
            refine tw_region ?_
            refine ow_g (g_mv rfl) rfl ?_
            refine ow_g (g_as rfl) rfl ?_
            refine ow_nil ?_
            refine tw_ret1 hfin Try.results102 rfl ?_
            refine ⟨(0, rest, 21), ?_, rfl, hR, hB⟩
            unfold rLen
            try rw [htop]
            try simp only [Nat.reducePow, Nat.reduceMul, Nat.reduceSub, Int.reducePow]
            repeat (first | rw [if_pos (by assumption)] | rw [if_neg (by assumption)] | rw [if_pos (by omega)] | rw [if_neg (by omega)])
            all_goals first | rfl | (refine Prod.ext rfl (Prod.ext rfl ?_); show _ = _; dsimp only; omega)
          · -- no
            have hd2 := hc4
            try (simp only [Bool.and_eq_true, Bool.or_eq_true, decide_eq_true_eq, Bool.and_eq_false_iff, Bool.or_eq_false_iff, decide_eq_false_iff_not, Bool.not_eq_true', Bool.not_eq_false', Bool.not_eq_true, Bool.not_eq_false, ne_eq, Decidable.not_not] at hd2)
            refine tw_skip ?_
            refine tw_seq ?_
            refine tw_region ?_
            refine ow_g (g_mv rfl) rfl ?_
            refine ow_g (g_mv rfl) rfl ?_
            refine ow_g (g_nilc rfl) rfl ?_
            refine ow_g (g_fa Try.underlying170 rfl ty22 (by decide) rfl) rfl ?_
            refine ow_g (g_ldb sc22 rfl (by assumption) rfl) rfl ?_
            refine ow_g (g_mv rfl) rfl ?_
            refine ow_g (g_sl Try.underlying22 ty5 rfl (by first | assumption | exact Own.rd (by assumption) | exact Rd.keep0 (by assumption) hB | exact Own.rd (Own.keep0 (by assumption) hB)) (.inr ⟨_, _, rfl, rfl⟩) (.inl ⟨rfl, rfl⟩) ⟨by omega, by omega, by omega⟩) rfl ?_
            refine ow_g (g_nilc rfl) rfl ?_
            refine ow_g (g_fa Try.underlying170 rfl ty22 (by decide) rfl) rfl ?_
            refine ow_d0 (d_st ty22 rfl rfl hr.cutOne hb rfl) ?_
            rintro _ w4 ⟨hq3, k4, z3⟩
            have hR : Rdr w4 p (rest.drop (1 : Int).toNat) e := Rdr.setB hq3 hr hn k4 (by omega) (by omega)
            replace hB := hB.trans k4
            refine ow_nil ?_
            refine tw_seq ?_
            refine tw_label ?_
            refine tw_seq ?_
            refine tw_region ?_
            refine ow_g (g_mv rfl) rfl ?_
            refine ow_g (g_as rfl) rfl ?_
            refine ow_nil ?_
            refine tw_ret1 hfin Try.results102 rfl ?_
            refine ⟨(num (rest.take 1) % 64, rest.drop (1 : Int).toNat, e), ?_, rfl, hR, hB⟩
            unfold rLen
            try rw [htop]
            try simp only [Nat.reducePow, Nat.reduceMul, Nat.reduceSub, Int.reducePow]
            repeat (first | rw [if_pos (by assumption)] | rw [if_neg (by assumption)] | rw [if_pos (by omega)] | rw [if_neg (by omega)])
            all_goals first | rfl | (refine Prod.ext rfl (Prod.ext rfl ?_); show _ = _; dsimp only; omega)
      · have htop : top rest = 1 := by omega
        rw [hq]
        refine tw_region ?_
        refine ow_g (g_mv rfl) rfl ?_
        refine ow_g (g_fold (j := 2) (g_shl rfl rfl (by decide)) (by decide)) rfl ?_
        refine ow_g (g_as rfl) rfl ?_
        refine ow_nil ?_
        refine tw_seq ?_
        refine tw_seq ?_
        refine tw_region ?_
        refine ow_g (g_mv rfl) rfl ?_
        refine ow_g (g_eq rfl rfl) rfl ?_
        refine ow_nil ?_
        refine tw_ifF rfl (by decide) ?_
        refine tw_skip ?_
        refine tw_seq ?_
        refine tw_seq ?_
        refine tw_region ?_
        refine ow_g (g_mv rfl) rfl ?_
        refine ow_g (g_nilc rfl) rfl ?_
        refine ow_g (g_fa Try.underlying170 rfl ty22 (by decide) rfl) rfl ?_
        refine ow_g (g_ldb sc22 rfl (by assumption) rfl) rfl ?_
        refine ow_g (g_len Try.underlying22 rfl (by first | assumption | exact Own.rd (by assumption) | exact Rd.keep0 (by assumption) hB | exact Own.rd (Own.keep0 (by assumption) hB))) rfl ?_
        refine ow_g (g_mv rfl) rfl ?_
        refine ow_g (g_lt rfl rfl) rfl ?_
        refine ow_nil ?_
        refine tw_if rfl (fun hc5 => ?_) (fun hc5 => ?_)
        · -- yes
          refine tw_seq ?_
          refine tw_region ?_
          refine ow_g (g_mv rfl) rfl ?_
          refine ow_g (g_nilc rfl) rfl ?_
          refine ow_g (g_fa Try.underlying170 rfl ty25 (by decide) rfl) rfl ?_
          refine ow_d0 (d_st ty25 rfl rfl rfl hb rfl) ?_
          rintro _ w5 ⟨hq4, k5, z4⟩
          have hR : Rdr w5 p rest 20 := Rdr.setE hq4 hr hn k5
          replace hB := hB.trans k5
          refine ow_nil ?_
          refine tw_goto rfl ?_
          refine tw_seq ?_
          refine tw_skip ?_
          refine tw_seq ?_
          refine tw_region ?_
          refine ow_g (g_mv rfl) rfl ?_
          refine ow_g (g_as rfl) rfl ?_
          refine ow_nil ?_
          refine tw_ret1 hfin Try.results102 rfl ?_
          refine ⟨(0, rest, 20), ?_, rfl, hR, hB⟩
          unfold rLen
          try rw [htop]
          try simp only [Nat.reducePow, Nat.reduceMul, Nat.reduceSub, Int.reducePow]
          repeat (first | rw [if_pos (by assumption)] | rw [if_neg (by assumption)] | rw [if_pos (by omega)] | rw [if_neg (by omega)])
          all_goals first | rfl | (refine Prod.ext rfl (Prod.ext rfl ?_); show _ = _; dsimp only; omega)
        · -- no
          refine tw_skip ?_
          refine tw_seq ?_
          refine tw_drawn mixed [(0, _), (3, _), (5, _), (6, _), (7, _), (4, _), (8, _), (9, _), (10, _), (11, _), (12, _), (13, _), (14, _), (15, _), (16, _), (17, _), (18, _), (19, _), (20, _), (21, _), (22, _), (23, _), (24, _), (25, _), (29, _), (30, _), (31, _), (32, _), (33, _), (34, _), (35, _)] (fun i v W => match i with | 0 => v = .pointer (some ⟨p, 0, none⟩) | 1 => v = .int .i64 2 | 2 => v = .int .i64 (num (rest.take 2)) | 3 => v = .int .i64 2 | 4 => v = .int .i64 16 | 5 => v = .int .i64 14 | 6 => v = .int .i64 16384 | 7 => v = .int .i64 16383 | 8 => v = .int .i64 (bits .and .i64 (num (rest.take 2)) 16383) | 9 => v = .int .i64 (bits .and .i64 (num (rest.take 2)) 16383) | _ => True) ⟨rfl, rfl, rfl, rfl, rfl, rfl, rfl, rfl, rfl, rfl, rfl, rfl, rfl, rfl, rfl, rfl, rfl, rfl, rfl, rfl, rfl, rfl, rfl, rfl, rfl, rfl, rfl, rfl, rfl, rfl, rfl, trivial⟩ (by decide) rfl ?_ ?_ ?_
          · intro i v W W' h k
            match i, h with
            | 0, h => exact h
            | 1, h => exact h
            | 2, h => exact h
            | 3, h => exact h
            | 4, h => exact h
            | 5, h => exact h
            | 6, h => exact h
            | 7, h => exact h
            | 8, h => exact h
            | 9, h => exact h
            | _ + 10, _ => trivial
          · refine ⟨?_, ?_, ?_, ?_, ?_, ?_, ?_, ?_, ?_, ?_, trivial⟩
            · refine ⟨[], rfl, ?_⟩; rintro W1 hk vs hd
              replace hB := hB.trans hk.weak
              refine ⟨true, fun a _ => rfl, fun _ => ?_, fun h => by cases h⟩
              refine does_sub [(0, _)] ⟨rfl, trivial⟩ ?_
              refine (Gives.does (g_mv rfl)).mono ?_
              rintro v W2 ⟨rfl, rfl⟩
              exact ⟨Keep.refl _ _, rfl⟩
            · refine ⟨[], rfl, ?_⟩; rintro W1 hk vs hd
              replace hB := hB.trans hk.weak
              refine ⟨true, fun a _ => rfl, fun _ => ?_, fun h => by cases h⟩
              refine does_sub [(3, _)] ⟨rfl, trivial⟩ ?_
              refine (Gives.does (g_mv rfl)).mono ?_
              rintro v W2 ⟨rfl, rfl⟩
              exact ⟨Keep.refl _ _, rfl⟩
            · refine ⟨[0, 1], rfl, ?_⟩; rintro W1 hk vs hd
              have d0 : (vs 0) = .pointer (some ⟨p, 0, none⟩) := hd 0 (by decide)
              have d1 : (vs 1) = .int .i64 2 := hd 1 (by decide)
              replace hB := hB.trans hk.weak
              refine ⟨true, fun a _ => rfl, fun _ => ?_, fun h => by cases h⟩
              refine does_sub [(39, .pointer (some ⟨p, 0, none⟩)), (40, .int .i64 2)] ⟨congrArg some d0, congrArg some d1, trivial⟩ ?_
              refine (d_call (vs := [_, _]) rfl (get_any _ rest e _ W1 (Rdr.keep0 (by exact ⟨bw, hb, hr, hn⟩) hk) (by omega) (by omega))).mono ?_
              rintro v W2 ⟨rfl, rfl⟩
              exact ⟨Keep.refl _ _, rfl⟩
            · refine ⟨[], rfl, ?_⟩; rintro W1 hk vs hd
              replace hB := hB.trans hk.weak
              refine ⟨true, fun a _ => rfl, fun _ => ?_, fun h => by cases h⟩
              refine does_sub [(3, _)] ⟨rfl, trivial⟩ ?_
              refine (Gives.does (g_mv rfl)).mono ?_
              rintro v W2 ⟨rfl, rfl⟩
              exact ⟨Keep.refl _ _, rfl⟩
            · refine ⟨[3], rfl, ?_⟩; rintro W1 hk vs hd
              have d3 : (vs 3) = .int .i64 2 := hd 3 (by decide)
              replace hB := hB.trans hk.weak
              refine ⟨true, fun a _ => rfl, fun _ => ?_, fun h => by cases h⟩
              refine does_sub [(42, .int .i64 2)] ⟨congrArg some d3, trivial⟩ ?_
              refine (Gives.does (g_fold (j := 16) (g_mulw rfl rfl) (by decide))).mono ?_
              rintro v W2 ⟨rfl, rfl⟩
              exact ⟨Keep.refl _ _, rfl⟩
            · refine ⟨[4], rfl, ?_⟩; rintro W1 hk vs hd
              have d4 : (vs 4) = .int .i64 16 := hd 4 (by decide)
              replace hB := hB.trans hk.weak
              refine ⟨true, fun a _ => rfl, fun _ => ?_, fun h => by cases h⟩
              refine does_sub [(43, .int .i64 16)] ⟨congrArg some d4, trivial⟩ ?_
              refine (Gives.does (g_fold (j := 14) (g_subw rfl rfl) (by decide))).mono ?_
              rintro v W2 ⟨rfl, rfl⟩
              exact ⟨Keep.refl _ _, rfl⟩
            · refine ⟨[5], rfl, ?_⟩; rintro W1 hk vs hd
              have d5 : (vs 5) = .int .i64 14 := hd 5 (by decide)
              replace hB := hB.trans hk.weak
              refine ⟨true, fun a _ => rfl, fun _ => ?_, fun h => by cases h⟩
              refine does_sub [(44, .int .i64 14)] ⟨congrArg some d5, trivial⟩ ?_
              refine (Gives.does (g_fold (j := 16384) (g_shl rfl rfl (by decide)) (by decide))).mono ?_
              rintro v W2 ⟨rfl, rfl⟩
              exact ⟨Keep.refl _ _, rfl⟩
            · refine ⟨[6], rfl, ?_⟩; rintro W1 hk vs hd
              have d6 : (vs 6) = .int .i64 16384 := hd 6 (by decide)
              replace hB := hB.trans hk.weak
              refine ⟨true, fun a _ => rfl, fun _ => ?_, fun h => by cases h⟩
              refine does_sub [(45, .int .i64 16384)] ⟨congrArg some d6, trivial⟩ ?_
              refine (Gives.does (g_fold (j := 16383) (g_subw rfl rfl) (by decide))).mono ?_
              rintro v W2 ⟨rfl, rfl⟩
              exact ⟨Keep.refl _ _, rfl⟩
            · refine ⟨[2, 7], rfl, ?_⟩; rintro W1 hk vs hd
              have d2 : (vs 2) = .int .i64 (num (rest.take 2)) := hd 2 (by decide)
              have d7 : (vs 7) = .int .i64 16383 := hd 7 (by decide)
              replace hB := hB.trans hk.weak
              refine ⟨true, fun a _ => rfl, fun _ => ?_, fun h => by cases h⟩
              refine does_sub [(41, .int .i64 (num (rest.take 2))), (46, .int .i64 16383)] ⟨congrArg some d2, congrArg some d7, trivial⟩ ?_
              refine (Gives.does (g_and rfl rfl)).mono ?_
              rintro v W2 ⟨rfl, rfl⟩
              exact ⟨Keep.refl _ _, rfl⟩
            · refine ⟨[8], rfl, ?_⟩; rintro W1 hk vs hd
              have d8 : (vs 8) = .int .i64 (bits .and .i64 (num (rest.take 2)) 16383) := hd 8 (by decide)
              replace hB := hB.trans hk.weak
              refine ⟨true, fun a _ => rfl, fun _ => ?_, fun h => by cases h⟩
              refine does_sub [(47, .int .i64 (bits .and .i64 (num (rest.take 2)) 16383))] ⟨congrArg some d8, trivial⟩ ?_
              refine (Gives.does (g_as rfl)).mono ?_
              rintro v W2 ⟨rfl, rfl⟩
              exact ⟨Keep.refl _ _, rfl⟩
          rintro w6 k6 vs hv
          have z_k6 := k6.size
          replace hB := hB.trans k6.weak
          have e2 : (vs 9) = .int .i64 (bits .and .i64 (num (rest.take 2)) 16383) := hv 9 (by decide) rfl
          refine tw_keep [(2, .int .i64 (bits .and .i64 (num (rest.take 2)) 16383)), (0, _), (3, _), (5, _), (6, _), (7, _), (4, _), (8, _), (9, _), (10, _), (11, _), (12, _), (13, _), (14, _), (15, _), (16, _), (17, _), (18, _), (19, _), (20, _), (21, _), (22, _), (23, _), (24, _), (25, _), (29, _), (30, _), (31, _), (32, _), (33, _), (34, _), (35, _)] ⟨congrArg some e2, rfl, rfl, rfl, rfl, rfl, rfl, rfl, rfl, rfl, rfl, rfl, rfl, rfl, rfl, rfl, rfl, rfl, rfl, rfl, rfl, rfl, rfl, rfl, rfl, rfl, rfl, rfl, rfl, rfl, rfl, rfl, trivial⟩ ?_
          replace hb := hb.keep0 k6; replace hr := hr.keep0 k6
          have hmask : bits .and .i64 (num (rest.take 2)) 16383 = num (rest.take 2) % 16384 := by exact and_mask 14 (by decide) (hnb 2 (by decide)).1 (hnb 2 (by decide)).2
          rw [hmask]
          refine tw_seq ?_
          refine tw_seq ?_
          refine tw_region ?_
          refine ow_g (g_mv rfl) rfl ?_
          refine ow_g (g_gt rfl rfl) rfl ?_
          refine ow_g (g_mv rfl) rfl ?_
          refine ow_grp 50 true rfl (fun c2 hgc2 => ?_)
          refine ow_gg [(2, _)] (grd1 rfl rfl rfl hgc2) ⟨und0 rfl, trivial⟩ (fun hw7 => g_mv rfl) rfl ?_
          refine ow_gg [(3, _)] (grd1 rfl rfl rfl hgc2) ⟨und0 rfl, trivial⟩ (fun hw8 => g_mv rfl) rfl ?_
          refine ow_gg [(52, _)] (grd1 rfl rfl rfl hgc2) ⟨und1 rfl, trivial⟩ (fun hw9 => g_fold (j := 8) (g_mulw rfl rfl) (by decide)) rfl ?_
          refine ow_gg [(53, _)] (grd1 rfl rfl rfl hgc2) ⟨und1 rfl, trivial⟩ (fun hw10 => g_fold (j := 6) (g_subw rfl rfl) (by decide)) rfl ?_
          refine ow_gg [(51, _), (54, _)] (grd1 rfl rfl rfl hgc2) ⟨und1 rfl, und1 rfl, trivial⟩ (fun hw11 => g_shrc (m := 64) rfl rfl (by decide) (by decide)) rfl ?_
          refine ow_gg [(55, _)] (grd1 rfl rfl rfl hgc2) ⟨und1 rfl, trivial⟩ (fun hw12 => g_eq rfl rfl) rfl ?_
          refine ow_g (g_pand rfl rfl hgc2) rfl ?_
          refine ow_nil ?_
          refine tw_cond rfl (fun hc6 => ?_) (fun hc6 => ?_)
          · -- yes
            have hd3 := hc6
            try (simp only [Bool.and_eq_true, Bool.or_eq_true, decide_eq_true_eq, Bool.and_eq_false_iff, Bool.or_eq_false_iff, decide_eq_false_iff_not, Bool.not_eq_true', Bool.not_eq_false', Bool.not_eq_true, Bool.not_eq_false, ne_eq, Decidable.not_not] at hd3)
            refine tw_seq ?_
            refine tw_region ?_
            refine ow_g (g_mv rfl) rfl ?_
            refine ow_g (g_as rfl) rfl ?_
            refine ow_g (g_nilc rfl) rfl ?_
            refine ow_g (g_fa Try.underlying170 rfl ty25 (by decide) rfl) rfl ?_
            refine ow_d0 (d_st ty25 rfl rfl rfl hb rfl) ?_
            rintro _ w7 ⟨hq5, k7, z5⟩
            have hR : Rdr w7 p rest 21 := Rdr.setE hq5 hr hn k7
            replace hB := hB.trans k7
            refine ow_nil ?_
            refine tw_goto rfl ?_
            refine tw_seq ?_
            refine tw_skip ?_
            refine tw_seq ?_
            refine tw_region ?_
            refine ow_g (g_mv rfl) rfl ?_
            refine ow_g (g_as rfl) rfl ?_
            refine ow_nil ?_
            refine tw_ret1 hfin Try.results102 rfl ?_
            refine ⟨(0, rest, 21), ?_, rfl, hR, hB⟩
            unfold rLen
            try rw [htop]
            try simp only [Nat.reducePow, Nat.reduceMul, Nat.reduceSub, Int.reducePow]
            repeat (first | rw [if_pos (by assumption)] | rw [if_neg (by assumption)] | rw [if_pos (by omega)] | rw [if_neg (by omega)])
            all_goals first | rfl | (refine Prod.ext rfl (Prod.ext rfl ?_); show _ = _; dsimp only; omega)
          · -- no
            have hd4 := hc6
            try (simp only [Bool.and_eq_true, Bool.or_eq_true, decide_eq_true_eq, Bool.and_eq_false_iff, Bool.or_eq_false_iff, decide_eq_false_iff_not, Bool.not_eq_true', Bool.not_eq_false', Bool.not_eq_true, Bool.not_eq_false, ne_eq, Decidable.not_not] at hd4)
            refine tw_skip ?_
            refine tw_seq ?_
            refine tw_region ?_
            refine ow_g (g_mv rfl) rfl ?_
            refine ow_g (g_mv rfl) rfl ?_
            refine ow_g (g_nilc rfl) rfl ?_
            refine ow_g (g_fa Try.underlying170 rfl ty22 (by decide) rfl) rfl ?_
            refine ow_g (g_ldb sc22 rfl (by assumption) rfl) rfl ?_
            refine ow_g (g_mv rfl) rfl ?_
            refine ow_g (g_sl Try.underlying22 ty5 rfl (by first | assumption | exact Own.rd (by assumption) | exact Rd.keep0 (by assumption) hB | exact Own.rd (Own.keep0 (by assumption) hB)) (.inr ⟨_, _, rfl, rfl⟩) (.inl ⟨rfl, rfl⟩) ⟨by omega, by omega, by omega⟩) rfl ?_
            refine ow_g (g_nilc rfl) rfl ?_
            refine ow_g (g_fa Try.underlying170 rfl ty22 (by decide) rfl) rfl ?_
            refine ow_d0 (d_st ty22 rfl rfl hr.cutOne hb rfl) ?_
            rintro _ w8 ⟨hq6, k8, z6⟩
            have hR : Rdr w8 p (rest.drop (2 : Int).toNat) e := Rdr.setB hq6 hr hn k8 (by omega) (by omega)
            replace hB := hB.trans k8
            refine ow_nil ?_
            refine tw_seq ?_
            refine tw_label ?_
            refine tw_seq ?_
            refine tw_region ?_
            refine ow_g (g_mv rfl) rfl ?_
            refine ow_g (g_as rfl) rfl ?_
            refine ow_nil ?_
            refine tw_ret1 hfin Try.results102 rfl ?_
            refine ⟨(num (rest.take 2) % 16384, rest.drop (2 : Int).toNat, e), ?_, rfl, hR, hB⟩
            unfold rLen
            try rw [htop]
            try simp only [Nat.reducePow, Nat.reduceMul, Nat.reduceSub, Int.reducePow]
            repeat (first | rw [if_pos (by assumption)] | rw [if_neg (by assumption)] | rw [if_pos (by omega)] | rw [if_neg (by omega)])
            all_goals first | rfl | (refine Prod.ext rfl (Prod.ext rfl ?_); show _ = _; dsimp only; omega)
      · have htop : top rest = 2 := by omega
        rw [hq]
        refine tw_region ?_
        refine ow_g (g_mv rfl) rfl ?_
        refine ow_g (g_fold (j := 4) (g_shl rfl rfl (by decide)) (by decide)) rfl ?_
        refine ow_g (g_as rfl) rfl ?_
        refine ow_nil ?_
        refine tw_seq ?_
        refine tw_seq ?_
        refine tw_region ?_
        refine ow_g (g_mv rfl) rfl ?_
        refine ow_g (g_eq rfl rfl) rfl ?_
        refine ow_nil ?_
        refine tw_ifF rfl (by decide) ?_
        refine tw_skip ?_
        refine tw_seq ?_
        refine tw_seq ?_
        refine tw_region ?_
        refine ow_g (g_mv rfl) rfl ?_
        refine ow_g (g_nilc rfl) rfl ?_
        refine ow_g (g_fa Try.underlying170 rfl ty22 (by decide) rfl) rfl ?_
        refine ow_g (g_ldb sc22 rfl (by assumption) rfl) rfl ?_
        refine ow_g (g_len Try.underlying22 rfl (by first | assumption | exact Own.rd (by assumption) | exact Rd.keep0 (by assumption) hB | exact Own.rd (Own.keep0 (by assumption) hB))) rfl ?_
        refine ow_g (g_mv rfl) rfl ?_
        refine ow_g (g_lt rfl rfl) rfl ?_
        refine ow_nil ?_
        refine tw_if rfl (fun hc7 => ?_) (fun hc7 => ?_)
        · -- yes
          refine tw_seq ?_
          refine tw_region ?_
          refine ow_g (g_mv rfl) rfl ?_
          refine ow_g (g_nilc rfl) rfl ?_
          refine ow_g (g_fa Try.underlying170 rfl ty25 (by decide) rfl) rfl ?_
          refine ow_d0 (d_st ty25 rfl rfl rfl hb rfl) ?_
          rintro _ w9 ⟨hq7, k9, z7⟩
          have hR : Rdr w9 p rest 20 := Rdr.setE hq7 hr hn k9
          replace hB := hB.trans k9
          refine ow_nil ?_
          refine tw_goto rfl ?_
          refine tw_seq ?_
          refine tw_skip ?_
          refine tw_seq ?_
          refine tw_region ?_
          refine ow_g (g_mv rfl) rfl ?_
          refine ow_g (g_as rfl) rfl ?_
          refine ow_nil ?_
          refine tw_ret1 hfin Try.results102 rfl ?_
          refine ⟨(0, rest, 20), ?_, rfl, hR, hB⟩
          unfold rLen
          try rw [htop]
          try simp only [Nat.reducePow, Nat.reduceMul, Nat.reduceSub, Int.reducePow]
          repeat (first | rw [if_pos (by assumption)] | rw [if_neg (by assumption)] | rw [if_pos (by omega)] | rw [if_neg (by omega)])
          all_goals first | rfl | (refine Prod.ext rfl (Prod.ext rfl ?_); show _ = _; dsimp only; omega)
        · -- no
          refine tw_skip ?_
          refine tw_seq ?_
          refine tw_drawn mixed [(0, _), (3, _), (5, _), (6, _), (7, _), (4, _), (8, _), (9, _), (10, _), (11, _), (12, _), (13, _), (14, _), (15, _), (16, _), (17, _), (18, _), (19, _), (20, _), (21, _), (22, _), (23, _), (24, _), (25, _), (29, _), (30, _), (31, _), (32, _), (33, _), (34, _), (35, _)] (fun i v W => match i with | 0 => v = .pointer (some ⟨p, 0, none⟩) | 1 => v = .int .i64 4 | 2 => v = .int .i64 (num (rest.take 4)) | 3 => v = .int .i64 4 | 4 => v = .int .i64 32 | 5 => v = .int .i64 30 | 6 => v = .int .i64 1073741824 | 7 => v = .int .i64 1073741823 | 8 => v = .int .i64 (bits .and .i64 (num (rest.take 4)) 1073741823) | 9 => v = .int .i64 (bits .and .i64 (num (rest.take 4)) 1073741823) | _ => True) ⟨rfl, rfl, rfl, rfl, rfl, rfl, rfl, rfl, rfl, rfl, rfl, rfl, rfl, rfl, rfl, rfl, rfl, rfl, rfl, rfl, rfl, rfl, rfl, rfl, rfl, rfl, rfl, rfl, rfl, rfl, rfl, trivial⟩ (by decide) rfl ?_ ?_ ?_
          · intro i v W W' h k
            match i, h with
            | 0, h => exact h
            | 1, h => exact h
            | 2, h => exact h
            | 3, h => exact h
            | 4, h => exact h
            | 5, h => exact h
            | 6, h => exact h
            | 7, h => exact h
            | 8, h => exact h
            | 9, h => exact h
            | _ + 10, _ => trivial
          · refine ⟨?_, ?_, ?_, ?_, ?_, ?_, ?_, ?_, ?_, ?_, trivial⟩
            · refine ⟨[], rfl, ?_⟩; rintro W1 hk vs hd
              replace hB := hB.trans hk.weak
              refine ⟨true, fun a _ => rfl, fun _ => ?_, fun h => by cases h⟩
              refine does_sub [(0, _)] ⟨rfl, trivial⟩ ?_
              refine (Gives.does (g_mv rfl)).mono ?_
              rintro v W2 ⟨rfl, rfl⟩
              exact ⟨Keep.refl _ _, rfl⟩
            · refine ⟨[], rfl, ?_⟩; rintro W1 hk vs hd
              replace hB := hB.trans hk.weak
              refine ⟨true, fun a _ => rfl, fun _ => ?_, fun h => by cases h⟩
              refine does_sub [(3, _)] ⟨rfl, trivial⟩ ?_
              refine (Gives.does (g_mv rfl)).mono ?_
              rintro v W2 ⟨rfl, rfl⟩
              exact ⟨Keep.refl _ _, rfl⟩
            · refine ⟨[0, 1], rfl, ?_⟩; rintro W1 hk vs hd
              have d0 : (vs 0) = .pointer (some ⟨p, 0, none⟩) := hd 0 (by decide)
              have d1 : (vs 1) = .int .i64 4 := hd 1 (by decide)
              replace hB := hB.trans hk.weak
              refine ⟨true, fun a _ => rfl, fun _ => ?_, fun h => by cases h⟩
              refine does_sub [(39, .pointer (some ⟨p, 0, none⟩)), (40, .int .i64 4)] ⟨congrArg some d0, congrArg some d1, trivial⟩ ?_
              refine (d_call (vs := [_, _]) rfl (get_any _ rest e _ W1 (Rdr.keep0 (by exact ⟨bw, hb, hr, hn⟩) hk) (by omega) (by omega))).mono ?_
              rintro v W2 ⟨rfl, rfl⟩
              exact ⟨Keep.refl _ _, rfl⟩
            · refine ⟨[], rfl, ?_⟩; rintro W1 hk vs hd
              replace hB := hB.trans hk.weak
              refine ⟨true, fun a _ => rfl, fun _ => ?_, fun h => by cases h⟩
              refine does_sub [(3, _)] ⟨rfl, trivial⟩ ?_
              refine (Gives.does (g_mv rfl)).mono ?_
              rintro v W2 ⟨rfl, rfl⟩
              exact ⟨Keep.refl _ _, rfl⟩
            · refine ⟨[3], rfl, ?_⟩; rintro W1 hk vs hd
              have d3 : (vs 3) = .int .i64 4 := hd 3 (by decide)
              replace hB := hB.trans hk.weak
              refine ⟨true, fun a _ => rfl, fun _ => ?_, fun h => by cases h⟩
              refine does_sub [(42, .int .i64 4)] ⟨congrArg some d3, trivial⟩ ?_
              refine (Gives.does (g_fold (j := 32) (g_mulw rfl rfl) (by decide))).mono ?_
              rintro v W2 ⟨rfl, rfl⟩
              exact ⟨Keep.refl _ _, rfl⟩
            · refine ⟨[4], rfl, ?_⟩; rintro W1 hk vs hd
              have d4 : (vs 4) = .int .i64 32 := hd 4 (by decide)
              replace hB := hB.trans hk.weak
              refine ⟨true, fun a _ => rfl, fun _ => ?_, fun h => by cases h⟩
              refine does_sub [(43, .int .i64 32)] ⟨congrArg some d4, trivial⟩ ?_
              refine (Gives.does (g_fold (j := 30) (g_subw rfl rfl) (by decide))).mono ?_
              rintro v W2 ⟨rfl, rfl⟩
              exact ⟨Keep.refl _ _, rfl⟩
            · refine ⟨[5], rfl, ?_⟩; rintro W1 hk vs hd
              have d5 : (vs 5) = .int .i64 30 := hd 5 (by decide)
              replace hB := hB.trans hk.weak
              refine ⟨true, fun a _ => rfl, fun _ => ?_, fun h => by cases h⟩
              refine does_sub [(44, .int .i64 30)] ⟨congrArg some d5, trivial⟩ ?_
              refine (Gives.does (g_fold (j := 1073741824) (g_shl rfl rfl (by decide)) (by decide))).mono ?_
              rintro v W2 ⟨rfl, rfl⟩
              exact ⟨Keep.refl _ _, rfl⟩
            · refine ⟨[6], rfl, ?_⟩; rintro W1 hk vs hd
              have d6 : (vs 6) = .int .i64 1073741824 := hd 6 (by decide)
              replace hB := hB.trans hk.weak
              refine ⟨true, fun a _ => rfl, fun _ => ?_, fun h => by cases h⟩
              refine does_sub [(45, .int .i64 1073741824)] ⟨congrArg some d6, trivial⟩ ?_
              refine (Gives.does (g_fold (j := 1073741823) (g_subw rfl rfl) (by decide))).mono ?_
              rintro v W2 ⟨rfl, rfl⟩
              exact ⟨Keep.refl _ _, rfl⟩
            · refine ⟨[2, 7], rfl, ?_⟩; rintro W1 hk vs hd
              have d2 : (vs 2) = .int .i64 (num (rest.take 4)) := hd 2 (by decide)
              have d7 : (vs 7) = .int .i64 1073741823 := hd 7 (by decide)
              replace hB := hB.trans hk.weak
              refine ⟨true, fun a _ => rfl, fun _ => ?_, fun h => by cases h⟩
              refine does_sub [(41, .int .i64 (num (rest.take 4))), (46, .int .i64 1073741823)] ⟨congrArg some d2, congrArg some d7, trivial⟩ ?_
              refine (Gives.does (g_and rfl rfl)).mono ?_
              rintro v W2 ⟨rfl, rfl⟩
              exact ⟨Keep.refl _ _, rfl⟩
            · refine ⟨[8], rfl, ?_⟩; rintro W1 hk vs hd
              have d8 : (vs 8) = .int .i64 (bits .and .i64 (num (rest.take 4)) 1073741823) := hd 8 (by decide)
              replace hB := hB.trans hk.weak
              refine ⟨true, fun a _ => rfl, fun _ => ?_, fun h => by cases h⟩
              refine does_sub [(47, .int .i64 (bits .and .i64 (num (rest.take 4)) 1073741823))] ⟨congrArg some d8, trivial⟩ ?_
              refine (Gives.does (g_as rfl)).mono ?_
              rintro v W2 ⟨rfl, rfl⟩
              exact ⟨Keep.refl _ _, rfl⟩
          rintro w10 k10 vs hv
          have z_k10 := k10.size
          replace hB := hB.trans k10.weak
          have e2 : (vs 9) = .int .i64 (bits .and .i64 (num (rest.take 4)) 1073741823) := hv 9 (by decide) rfl
          refine tw_keep [(2, .int .i64 (bits .and .i64 (num (rest.take 4)) 1073741823)), (0, _), (3, _), (5, _), (6, _), (7, _), (4, _), (8, _), (9, _), (10, _), (11, _), (12, _), (13, _), (14, _), (15, _), (16, _), (17, _), (18, _), (19, _), (20, _), (21, _), (22, _), (23, _), (24, _), (25, _), (29, _), (30, _), (31, _), (32, _), (33, _), (34, _), (35, _)] ⟨congrArg some e2, rfl, rfl, rfl, rfl, rfl, rfl, rfl, rfl, rfl, rfl, rfl, rfl, rfl, rfl, rfl, rfl, rfl, rfl, rfl, rfl, rfl, rfl, rfl, rfl, rfl, rfl, rfl, rfl, rfl, rfl, rfl, trivial⟩ ?_
          replace hb := hb.keep0 k10; replace hr := hr.keep0 k10
          have hmask : bits .and .i64 (num (rest.take 4)) 1073741823 = num (rest.take 4) % 1073741824 := by exact and_mask 30 (by decide) (hnb 4 (by decide)).1 (hnb 4 (by decide)).2
          rw [hmask]
          refine tw_seq ?_
          refine tw_seq ?_
          refine tw_region ?_
          refine ow_g (g_mv rfl) rfl ?_
          refine ow_g (g_gt rfl rfl) rfl ?_
          refine ow_g (g_mv rfl) rfl ?_
          refine ow_grp 50 true rfl (fun c3 hgc3 => ?_)
          refine ow_gg [(2, _)] (grd1 rfl rfl rfl hgc3) ⟨und0 rfl, trivial⟩ (fun hw13 => g_mv rfl) rfl ?_
          refine ow_gg [(3, _)] (grd1 rfl rfl rfl hgc3) ⟨und0 rfl, trivial⟩ (fun hw14 => g_mv rfl) rfl ?_
          refine ow_gg [(52, _)] (grd1 rfl rfl rfl hgc3) ⟨und1 rfl, trivial⟩ (fun hw15 => g_fold (j := 16) (g_mulw rfl rfl) (by decide)) rfl ?_
          refine ow_gg [(53, _)] (grd1 rfl rfl rfl hgc3) ⟨und1 rfl, trivial⟩ (fun hw16 => g_fold (j := 14) (g_subw rfl rfl) (by decide)) rfl ?_
          refine ow_gg [(51, _), (54, _)] (grd1 rfl rfl rfl hgc3) ⟨und1 rfl, und1 rfl, trivial⟩ (fun hw17 => g_shrc (m := 16384) rfl rfl (by decide) (by decide)) rfl ?_
          refine ow_gg [(55, _)] (grd1 rfl rfl rfl hgc3) ⟨und1 rfl, trivial⟩ (fun hw18 => g_eq rfl rfl) rfl ?_
          refine ow_g (g_pand rfl rfl hgc3) rfl ?_
          refine ow_nil ?_
          refine tw_cond rfl (fun hc8 => ?_) (fun hc8 => ?_)
          · -- yes
            have hd5 := hc8
            try (simp only [Bool.and_eq_true, Bool.or_eq_true, decide_eq_true_eq, Bool.and_eq_false_iff, Bool.or_eq_false_iff, decide_eq_false_iff_not, Bool.not_eq_true', Bool.not_eq_false', Bool.not_eq_true, Bool.not_eq_false, ne_eq, Decidable.not_not] at hd5)
            refine tw_seq ?_
            refine tw_region ?_
            refine ow_g (g_mv rfl) rfl ?_
            refine ow_g (g_as rfl) rfl ?_
            refine ow_g (g_nilc rfl) rfl ?_
            refine ow_g (g_fa Try.underlying170 rfl ty25 (by decide) rfl) rfl ?_
            refine ow_d0 (d_st ty25 rfl rfl rfl hb rfl) ?_
            rintro _ w11 ⟨hq8, k11, z8⟩
            have hR : Rdr w11 p rest 21 := Rdr.setE hq8 hr hn k11
            replace hB := hB.trans k11
            refine ow_nil ?_
            refine tw_goto rfl ?_
            refine tw_seq ?_
            refine tw_skip ?_
            refine tw_seq ?_
            refine tw_region ?_
            refine ow_g (g_mv rfl) rfl ?_
            refine ow_g (g_as rfl) rfl ?_
            refine ow_nil ?_
            refine tw_ret1 hfin Try.results102 rfl ?_
            refine ⟨(0, rest, 21), ?_, rfl, hR, hB⟩
            unfold rLen
            try rw [htop]
            try simp only [Nat.reducePow, Nat.reduceMul, Nat.reduceSub, Int.reducePow]
            repeat (first | rw [if_pos (by assumption)] | rw [if_neg (by assumption)] | rw [if_pos (by omega)] | rw [if_neg (by omega)])
            all_goals first | rfl | (refine Prod.ext rfl (Prod.ext rfl ?_); show _ = _; dsimp only; omega)
          · -- no
            have hd6 := hc8
            try (simp only [Bool.and_eq_true, Bool.or_eq_true, decide_eq_true_eq, Bool.and_eq_false_iff, Bool.or_eq_false_iff, decide_eq_false_iff_not, Bool.not_eq_true', Bool.not_eq_false', Bool.not_eq_true, Bool.not_eq_false, ne_eq, Decidable.not_not] at hd6)
            refine tw_skip ?_
            refine tw_seq ?_
            refine tw_region ?_
            refine ow_g (g_mv rfl) rfl ?_
            refine ow_g (g_mv rfl) rfl ?_
            refine ow_g (g_nilc rfl) rfl ?_
            refine ow_g (g_fa Try.underlying170 rfl ty22 (by decide) rfl) rfl ?_
            refine ow_g (g_ldb sc22 rfl (by assumption) rfl) rfl ?_
            refine ow_g (g_mv rfl) rfl ?_
            refine ow_g (g_sl Try.underlying22 ty5 rfl (by first | assumption | exact Own.rd (by assumption) | exact Rd.keep0 (by assumption) hB | exact Own.rd (Own.keep0 (by assumption) hB)) (.inr ⟨_, _, rfl, rfl⟩) (.inl ⟨rfl, rfl⟩) ⟨by omega, by omega, by omega⟩) rfl ?_
            refine ow_g (g_nilc rfl) rfl ?_
            refine ow_g (g_fa Try.underlying170 rfl ty22 (by decide) rfl) rfl ?_
            refine ow_d0 (d_st ty22 rfl rfl hr.cutOne hb rfl) ?_
            rintro _ w12 ⟨hq9, k12, z9⟩
            have hR : Rdr w12 p (rest.drop (4 : Int).toNat) e := Rdr.setB hq9 hr hn k12 (by omega) (by omega)
            replace hB := hB.trans k12
            refine ow_nil ?_
            refine tw_seq ?_
            refine tw_label ?_
            refine tw_seq ?_
            refine tw_region ?_
            refine ow_g (g_mv rfl) rfl ?_
            refine ow_g (g_as rfl) rfl ?_
            refine ow_nil ?_
            refine tw_ret1 hfin Try.results102 rfl ?_
            refine ⟨(num (rest.take 4) % 1073741824, rest.drop (4 : Int).toNat, e), ?_, rfl, hR, hB⟩
            unfold rLen
            try rw [htop]
            try simp only [Nat.reducePow, Nat.reduceMul, Nat.reduceSub, Int.reducePow]
            repeat (first | rw [if_pos (by assumption)] | rw [if_neg (by assumption)] | rw [if_pos (by omega)] | rw [if_neg (by omega)])
            all_goals first | rfl | (refine Prod.ext rfl (Prod.ext rfl ?_); show _ = _; dsimp only; omega)
      · have htop : top rest = 3 := by omega
        rw [hq]
        refine tw_region ?_
        refine ow_g (g_mv rfl) rfl ?_
        refine ow_g (g_fold (j := 8) (g_shl rfl rfl (by decide)) (by decide)) rfl ?_
        refine ow_g (g_as rfl) rfl ?_
        refine ow_nil ?_
        refine tw_seq ?_
        refine tw_seq ?_
        refine tw_region ?_
        refine ow_g (g_mv rfl) rfl ?_
        refine ow_g (g_eq rfl rfl) rfl ?_
        refine ow_nil ?_
        refine tw_ifT rfl (by decide) ?_
        refine tw_seq ?_
        refine tw_region ?_
        refine ow_g (g_mv rfl) rfl ?_
        refine ow_g (g_nilc rfl) rfl ?_
        refine ow_g (g_fa Try.underlying170 rfl ty25 (by decide) rfl) rfl ?_
        refine ow_d0 (d_st ty25 rfl rfl rfl hb rfl) ?_
        rintro _ w13 ⟨hq10, k13, z10⟩
        have hR : Rdr w13 p rest 21 := Rdr.setE hq10 hr hn k13
        replace hB := hB.trans k13
        refine ow_nil ?_
        refine tw_goto rfl ?_
        refine tw_seq ?_
        refine tw_skip ?_
        refine tw_seq ?_
        refine tw_region ?_
        refine ow_g (g_mv rfl) rfl ?_
        refine ow_g (g_as rfl) rfl ?_
        refine ow_nil ?_
        refine tw_ret1 hfin Try.results102 rfl ?_
        refine ⟨(0, rest, 21), ?_, rfl, hR, hB⟩
        unfold rLen
        try rw [htop]
        try simp only [Nat.reducePow, Nat.reduceMul, Nat.reduceSub, Int.reducePow]
        repeat (first | rw [if_pos (by assumption)] | rw [if_neg (by assumption)] | rw [if_pos (by omega)] | rw [if_neg (by omega)])
        all_goals first | rfl | (refine Prod.ext rfl (Prod.ext rfl ?_); show _ = _; dsimp only; omega)
    · -- no
      refine tw_skip ?_
      refine tw_seq ?_
      refine tw_seq ?_
      refine tw_region ?_
      refine ow_g (g_mv rfl) rfl ?_
      refine ow_g (g_eq rfl rfl) rfl ?_
      refine ow_nil ?_
      refine tw_ifF rfl (by decide) ?_
      refine tw_skip ?_
      refine tw_seq ?_
      refine tw_seq ?_
      refine tw_region ?_
      refine ow_g (g_mv rfl) rfl ?_
      refine ow_g (g_nilc rfl) rfl ?_
      refine ow_g (g_fa Try.underlying170 rfl ty22 (by decide) rfl) rfl ?_
      refine ow_g (g_ldb sc22 rfl (by assumption) rfl) rfl ?_
      refine ow_g (g_len Try.underlying22 rfl (by first | assumption | exact Own.rd (by assumption) | exact Rd.keep0 (by assumption) hB | exact Own.rd (Own.keep0 (by assumption) hB))) rfl ?_
      refine ow_g (g_mv rfl) rfl ?_
      refine ow_g (g_lt rfl rfl) rfl ?_
      refine ow_nil ?_
      refine tw_if rfl (fun hc9 => ?_) (fun hc9 => ?_)
      · -- yes
        refine tw_seq ?_
        refine tw_region ?_
        refine ow_g (g_mv rfl) rfl ?_
        refine ow_g (g_nilc rfl) rfl ?_
        refine ow_g (g_fa Try.underlying170 rfl ty25 (by decide) rfl) rfl ?_
        refine ow_d0 (d_st ty25 rfl rfl rfl hb rfl) ?_
        rintro _ w14 ⟨hq11, k14, z11⟩
        have hR : Rdr w14 p rest 20 := Rdr.setE hq11 hr hn k14
        replace hB := hB.trans k14
        refine ow_nil ?_
        refine tw_goto rfl ?_
        refine tw_seq ?_
        refine tw_skip ?_
        refine tw_seq ?_
        refine tw_region ?_
        refine ow_g (g_mv rfl) rfl ?_
        refine ow_g (g_as rfl) rfl ?_
        refine ow_nil ?_
        refine tw_ret1 hfin Try.results102 rfl ?_
        have htop := htop0 (by omega)
        refine ⟨(0, rest, 20), ?_, rfl, hR, hB⟩
        unfold rLen
        try rw [htop]
        try simp only [Nat.reducePow, Nat.reduceMul, Nat.reduceSub, Int.reducePow]
        repeat (first | rw [if_pos (by assumption)] | rw [if_neg (by assumption)] | rw [if_pos (by omega)] | rw [if_neg (by omega)])
        all_goals first | rfl | (refine Prod.ext rfl (Prod.ext rfl ?_); show _ = _; dsimp only; omega)
      · -- no
        refine tw_skip ?_
        refine tw_seq ?_
        refine tw_drawn mixed [(0, _), (3, _), (5, _), (6, _), (7, _), (4, _), (8, _), (9, _), (10, _), (11, _), (12, _), (13, _), (24, _), (25, _), (29, _), (30, _), (31, _), (32, _), (33, _), (34, _), (35, _)] (fun i v W => match i with | 0 => v = .pointer (some ⟨p, 0, none⟩) | 1 => v = .int .i64 1 | 2 => v = .int .i64 (num (rest.take 1)) | 3 => v = .int .i64 1 | 4 => v = .int .i64 8 | 5 => v = .int .i64 6 | 6 => v = .int .i64 64 | 7 => v = .int .i64 63 | 8 => v = .int .i64 (bits .and .i64 (num (rest.take 1)) 63) | 9 => v = .int .i64 (bits .and .i64 (num (rest.take 1)) 63) | _ => True) ⟨rfl, rfl, rfl, rfl, rfl, rfl, rfl, rfl, rfl, rfl, rfl, rfl, rfl, rfl, rfl, rfl, rfl, rfl, rfl, rfl, rfl, trivial⟩ (by decide) rfl ?_ ?_ ?_
        · intro i v W W' h k
          match i, h with
          | 0, h => exact h
          | 1, h => exact h
          | 2, h => exact h
          | 3, h => exact h
          | 4, h => exact h
          | 5, h => exact h
          | 6, h => exact h
          | 7, h => exact h
          | 8, h => exact h
          | 9, h => exact h
          | _ + 10, _ => trivial
        · refine ⟨?_, ?_, ?_, ?_, ?_, ?_, ?_, ?_, ?_, ?_, trivial⟩
          · refine ⟨[], rfl, ?_⟩; rintro W1 hk vs hd
            replace hB := hB.trans hk.weak
            refine ⟨true, fun a _ => rfl, fun _ => ?_, fun h => by cases h⟩
            refine does_sub [(0, _)] ⟨rfl, trivial⟩ ?_
            refine (Gives.does (g_mv rfl)).mono ?_
            rintro v W2 ⟨rfl, rfl⟩
            exact ⟨Keep.refl _ _, rfl⟩
          · refine ⟨[], rfl, ?_⟩; rintro W1 hk vs hd
            replace hB := hB.trans hk.weak
            refine ⟨true, fun a _ => rfl, fun _ => ?_, fun h => by cases h⟩
            refine does_sub [(3, _)] ⟨rfl, trivial⟩ ?_
            refine (Gives.does (g_mv rfl)).mono ?_
            rintro v W2 ⟨rfl, rfl⟩
            exact ⟨Keep.refl _ _, rfl⟩
          · refine ⟨[0, 1], rfl, ?_⟩; rintro W1 hk vs hd
            have d0 : (vs 0) = .pointer (some ⟨p, 0, none⟩) := hd 0 (by decide)
            have d1 : (vs 1) = .int .i64 1 := hd 1 (by decide)
            replace hB := hB.trans hk.weak
            refine ⟨true, fun a _ => rfl, fun _ => ?_, fun h => by cases h⟩
            refine does_sub [(39, .pointer (some ⟨p, 0, none⟩)), (40, .int .i64 1)] ⟨congrArg some d0, congrArg some d1, trivial⟩ ?_
            refine (d_call (vs := [_, _]) rfl (get_any _ rest e _ W1 (Rdr.keep0 (by exact ⟨bw, hb, hr, hn⟩) hk) (by omega) (by omega))).mono ?_
            rintro v W2 ⟨rfl, rfl⟩
            exact ⟨Keep.refl _ _, rfl⟩
          · refine ⟨[], rfl, ?_⟩; rintro W1 hk vs hd
            replace hB := hB.trans hk.weak
            refine ⟨true, fun a _ => rfl, fun _ => ?_, fun h => by cases h⟩
            refine does_sub [(3, _)] ⟨rfl, trivial⟩ ?_
            refine (Gives.does (g_mv rfl)).mono ?_
            rintro v W2 ⟨rfl, rfl⟩
            exact ⟨Keep.refl _ _, rfl⟩
          · refine ⟨[3], rfl, ?_⟩; rintro W1 hk vs hd
            have d3 : (vs 3) = .int .i64 1 := hd 3 (by decide)
            replace hB := hB.trans hk.weak
            refine ⟨true, fun a _ => rfl, fun _ => ?_, fun h => by cases h⟩
            refine does_sub [(42, .int .i64 1)] ⟨congrArg some d3, trivial⟩ ?_
            refine (Gives.does (g_fold (j := 8) (g_mulw rfl rfl) (by decide))).mono ?_
            rintro v W2 ⟨rfl, rfl⟩
            exact ⟨Keep.refl _ _, rfl⟩
          · refine ⟨[4], rfl, ?_⟩; rintro W1 hk vs hd
            have d4 : (vs 4) = .int .i64 8 := hd 4 (by decide)
            replace hB := hB.trans hk.weak
            refine ⟨true, fun a _ => rfl, fun _ => ?_, fun h => by cases h⟩
            refine does_sub [(43, .int .i64 8)] ⟨congrArg some d4, trivial⟩ ?_
            refine (Gives.does (g_fold (j := 6) (g_subw rfl rfl) (by decide))).mono ?_
            rintro v W2 ⟨rfl, rfl⟩
            exact ⟨Keep.refl _ _, rfl⟩
          · refine ⟨[5], rfl, ?_⟩; rintro W1 hk vs hd
            have d5 : (vs 5) = .int .i64 6 := hd 5 (by decide)
            replace hB := hB.trans hk.weak
            refine ⟨true, fun a _ => rfl, fun _ => ?_, fun h => by cases h⟩
            refine does_sub [(44, .int .i64 6)] ⟨congrArg some d5, trivial⟩ ?_
            refine (Gives.does (g_fold (j := 64) (g_shl rfl rfl (by decide)) (by decide))).mono ?_
            rintro v W2 ⟨rfl, rfl⟩
            exact ⟨Keep.refl _ _, rfl⟩
          · refine ⟨[6], rfl, ?_⟩; rintro W1 hk vs hd
            have d6 : (vs 6) = .int .i64 64 := hd 6 (by decide)
            replace hB := hB.trans hk.weak
            refine ⟨true, fun a _ => rfl, fun _ => ?_, fun h => by cases h⟩
            refine does_sub [(45, .int .i64 64)] ⟨congrArg some d6, trivial⟩ ?_
            refine (Gives.does (g_fold (j := 63) (g_subw rfl rfl) (by decide))).mono ?_
            rintro v W2 ⟨rfl, rfl⟩
            exact ⟨Keep.refl _ _, rfl⟩
          · refine ⟨[2, 7], rfl, ?_⟩; rintro W1 hk vs hd
            have d2 : (vs 2) = .int .i64 (num (rest.take 1)) := hd 2 (by decide)
            have d7 : (vs 7) = .int .i64 63 := hd 7 (by decide)
            replace hB := hB.trans hk.weak
            refine ⟨true, fun a _ => rfl, fun _ => ?_, fun h => by cases h⟩
            refine does_sub [(41, .int .i64 (num (rest.take 1))), (46, .int .i64 63)] ⟨congrArg some d2, congrArg some d7, trivial⟩ ?_
            refine (Gives.does (g_and rfl rfl)).mono ?_
            rintro v W2 ⟨rfl, rfl⟩
            exact ⟨Keep.refl _ _, rfl⟩
          · refine ⟨[8], rfl, ?_⟩; rintro W1 hk vs hd
            have d8 : (vs 8) = .int .i64 (bits .and .i64 (num (rest.take 1)) 63) := hd 8 (by decide)
            replace hB := hB.trans hk.weak
            refine ⟨true, fun a _ => rfl, fun _ => ?_, fun h => by cases h⟩
            refine does_sub [(47, .int .i64 (bits .and .i64 (num (rest.take 1)) 63))] ⟨congrArg some d8, trivial⟩ ?_
            refine (Gives.does (g_as rfl)).mono ?_
            rintro v W2 ⟨rfl, rfl⟩
            exact ⟨Keep.refl _ _, rfl⟩
        rintro w15 k15 vs hv
        have z_k15 := k15.size
        replace hB := hB.trans k15.weak
        have e2 : (vs 9) = .int .i64 (bits .and .i64 (num (rest.take 1)) 63) := hv 9 (by decide) rfl
        refine tw_keep [(2, .int .i64 (bits .and .i64 (num (rest.take 1)) 63)), (0, _), (3, _), (5, _), (6, _), (7, _), (4, _), (8, _), (9, _), (10, _), (11, _), (12, _), (13, _), (24, _), (25, _), (29, _), (30, _), (31, _), (32, _), (33, _), (34, _), (35, _)] ⟨congrArg some e2, rfl, rfl, rfl, rfl, rfl, rfl, rfl, rfl, rfl, rfl, rfl, rfl, rfl, rfl, rfl, rfl, rfl, rfl, rfl, rfl, rfl, trivial⟩ ?_
        replace hb := hb.keep0 k15; replace hr := hr.keep0 k15
        have hmask : bits .and .i64 (num (rest.take 1)) 63 = num (rest.take 1) % 64 := by exact and_mask 6 (by decide) (hnb 1 (by decide)).1 (hnb 1 (by decide)).2
        rw [hmask]
        refine tw_seq ?_
        refine tw_seq ?_
        refine tw_region ?_
        refine ow_g (g_mv rfl) rfl ?_
        refine ow_g (g_gt rfl rfl) rfl ?_
        refine ow_g (g_mv rfl) rfl ?_
        refine ow_grp 50 true rfl (fun c4 hgc4 => ?_)
        refine ow_gg [(2, _)] (grd1 rfl rfl rfl hgc4) ⟨und0 rfl, trivial⟩ (fun hw19 => g_mv rfl) rfl ?_
        refine ow_gg [(3, _)] (grd1 rfl rfl rfl hgc4) ⟨und0 rfl, trivial⟩ (fun hw20 => g_mv rfl) rfl ?_
        refine ow_gg [(52, _)] (grd1 rfl rfl rfl hgc4) ⟨und1 rfl, trivial⟩ (fun hw21 => g_fold (j := 4) (g_mulw rfl rfl) (by decide)) rfl ?_
        refine ow_gg [(53, _)] (grd1 rfl rfl rfl hgc4) ⟨und1 rfl, trivial⟩ (fun hw22 => g_fold (j := 2) (g_subw rfl rfl) (by decide)) rfl ?_
        refine ow_gg [(51, _), (54, _)] (grd1 rfl rfl rfl hgc4) ⟨und1 rfl, und1 rfl, trivial⟩ (fun hw23 => g_shrc (m := 4) rfl rfl (by decide) (by decide)) rfl ?_
        refine ow_gg [(55, _)] (grd1 rfl rfl rfl hgc4) ⟨und1 rfl, trivial⟩ (fun hw24 => g_eq rfl rfl) rfl ?_
        refine ow_g (g_pand rfl rfl hgc4) rfl ?_
        refine ow_nil ?_
        refine tw_cond rfl (fun hc10 => ?_) (fun hc10 => ?_)
        · -- yes
          have hd7 := hc10
          try (simp only [Bool.and_eq_true, Bool.or_eq_true, decide_eq_true_eq, Bool.and_eq_false_iff, Bool.or_eq_false_iff, decide_eq_false_iff_not, Bool.not_eq_true', Bool.not_eq_false', Bool.not_eq_true, Bool.not_eq_false, ne_eq, Decidable.not_not] at hd7)
          refine tw_seq ?_
          refine tw_region ?_
          refine ow_g (g_mv rfl) rfl ?_
          refine ow_g (g_as rfl) rfl ?_
          refine ow_g (g_nilc rfl) rfl ?_
          refine ow_g (g_fa Try.underlying170 rfl ty25 (by decide) rfl) rfl ?_
          refine ow_d0 (d_st ty25 rfl rfl rfl hb rfl) ?_
          rintro _ w16 ⟨hq12, k16, z12⟩
          have hR : Rdr w16 p rest 21 := Rdr.setE hq12 hr hn k16
          replace hB := hB.trans k16
          refine ow_nil ?_
          refine tw_goto rfl ?_
          refine tw_seq ?_
          refine tw_skip ?_
          refine tw_seq ?_
          refine tw_region ?_
          refine ow_g (g_mv rfl) rfl ?_
          refine ow_g (g_as rfl) rfl ?_
          refine ow_nil ?_
          refine tw_ret1 hfin Try.results102 rfl ?_
          exfalso; omega
        · -- no
          have hd8 := hc10
          try (simp only [Bool.and_eq_true, Bool.or_eq_true, decide_eq_true_eq, Bool.and_eq_false_iff, Bool.or_eq_false_iff, decide_eq_false_iff_not, Bool.not_eq_true', Bool.not_eq_false', Bool.not_eq_true, Bool.not_eq_false, ne_eq, Decidable.not_not] at hd8)
          refine tw_skip ?_
          refine tw_seq ?_
          refine tw_region ?_
          refine ow_g (g_mv rfl) rfl ?_
          refine ow_g (g_mv rfl) rfl ?_
          refine ow_g (g_nilc rfl) rfl ?_
          refine ow_g (g_fa Try.underlying170 rfl ty22 (by decide) rfl) rfl ?_
          refine ow_g (g_ldb sc22 rfl (by assumption) rfl) rfl ?_
          refine ow_g (g_mv rfl) rfl ?_
          refine ow_g (g_sl Try.underlying22 ty5 rfl (by first | assumption | exact Own.rd (by assumption) | exact Rd.keep0 (by assumption) hB | exact Own.rd (Own.keep0 (by assumption) hB)) (.inr ⟨_, _, rfl, rfl⟩) (.inl ⟨rfl, rfl⟩) ⟨by omega, by omega, by omega⟩) rfl ?_
          refine ow_g (g_nilc rfl) rfl ?_
          refine ow_g (g_fa Try.underlying170 rfl ty22 (by decide) rfl) rfl ?_
          refine ow_d0 (d_st ty22 rfl rfl hr.cutOne hb rfl) ?_
          rintro _ w17 ⟨hq13, k17, z13⟩
          have hR : Rdr w17 p (rest.drop (1 : Int).toNat) e := Rdr.setB hq13 hr hn k17 (by omega) (by omega)
          replace hB := hB.trans k17
          refine ow_nil ?_
          refine tw_seq ?_
          refine tw_label ?_
          refine tw_seq ?_
          refine tw_region ?_
          refine ow_g (g_mv rfl) rfl ?_
          refine ow_g (g_as rfl) rfl ?_
          refine ow_nil ?_
          refine tw_ret1 hfin Try.results102 rfl ?_
          exfalso; omega

end Go.Proofs.Ytdbfpmkilchilaa.W
