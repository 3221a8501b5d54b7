/- Contracts and laws, part 2 of 7: what each function of the program and of the reference computes, shown once. -/
import Derived.StillTail
import Derived.Test.YtonchmcppekldaaQba
set_option maxRecDepth 100000
set_option maxHeartbeats 4000000
set_option linter.unusedVariables false
set_option linter.unusedSimpArgs false
namespace Go.Proofs.Ytonchmcppekldaa.W
open Go Go.Eng Go.Byt
def Rdr (w : World) (p : Nat) (rest : List UInt8) (e : Int) : Prop := ∃ bw, Bk w p 131 [bw, .int .i64 e, .bool true] ∧ RdB w bw rest ∧ ∀ x, x ∈ vblk bw → x < p
theorem Rdr.lt {w : World} {p : Nat} {rest : List UInt8} {e : Int} (h : Rdr w p rest e) : p < w.heap.size := by obtain ⟨bw, hb, _⟩ := h; exact hb.lt
theorem Rdr.oC {w w' : World} {p : Nat} {rest : List UInt8} {e : Int} (h : Rdr w p rest e) (k : Keep [] w w') : Rdr w' p rest e := by
 obtain ⟨bw, hb, hr, hn⟩ := h; exact ⟨bw, hb.oC k, hr.oC k, hn⟩
theorem Rdr.keep {S : List Nat} {w w' : World} {p : Nat} {rest : List UInt8} {e : Int} (h : Rdr w p rest e) (k : Keep S w w') (hS : ∀ x, x ≤ p → x ∉ S) : Rdr w' p rest e := by
 obtain ⟨bw, hb, hr, hn⟩ := h; exact ⟨bw, hb.keep k (hS p (Nat.le_refl _)), hr.keep k (fun x hx => hS x (Nat.le_of_lt (hn x hx))), hn⟩
def RdrL (w : World) (lo p : Nat) (rest : List UInt8) (e : Int) : Prop := lo ≤ p ∧ ∃ bw, Bk w p 131 [bw, .int .i64 e, .bool true] ∧ RdB w bw rest ∧ ∀ x, x ∈ vblk bw → lo ≤ x ∧ x < p
theorem RdrL.rdr {w : World} {lo p : Nat} {rest : List UInt8} {e : Int} (h : RdrL w lo p rest e) : Rdr w p rest e := by obtain ⟨_, bw, hb, hr, hn⟩ := h; exact ⟨bw, hb, hr, fun x hx => (hn x hx).2⟩
theorem RdrL.keep {S : List Nat} {w w' : World} {lo p : Nat} {rest : List UInt8} {e : Int} (h : RdrL w lo p rest e) (k : Keep S w w') (hS : ∀ x, lo ≤ x → x ∉ S) : RdrL w' lo p rest e := by
 obtain ⟨h0, bw, hb, hr, hn⟩ := h; exact ⟨h0, bw, hb.keep k (hS p h0), hr.keep k (fun x hx => hS x (hn x hx).1), hn⟩
theorem RdrL.oC {w w' : World} {lo p : Nat} {rest : List UInt8} {e : Int} (h : RdrL w lo p rest e) (k : Keep [] w w') : RdrL w' lo p rest e := h.keep k (fun _ _ h => by cases h)
theorem Rdr.setE {w w' : World} {p : Nat} {rest : List UInt8} {bw : Value} {e e' : Int} (hb : Bk w' p 131 (List.set [bw, .int .i64 e, .bool true] 1 (.int .i64 e'))) (hr : RdB w bw rest) (hn : ∀ x, x ∈ vblk bw → x < p) (k : Keep [p] w w') : Rdr w' p rest e' :=
 ⟨bw, hb, hr.keep k (fun x hx hm => Nat.ne_of_lt (hn x hx) (by simpa using hm)), hn⟩
theorem Rdr.setB {w w' : World} {p n m : Nat} {rest : List UInt8} {bw : Value} {e : Int} (hb : Bk w' p 131 (List.set [bw, .int .i64 e, .bool true] 0 (cut bw n m 1))) (hr : RdB w bw rest) (hn : ∀ x, x ∈ vblk bw → x < p) (k : Keep [p] w w') (h1 : n ≤ m) (h2 : m = rest.length) : Rdr w' p (rest.drop n) e := by
 subst h2
 refine ⟨_, hb, ?_, fun x hx => hn x (jl hx)⟩
 have h3 := (hr.cutB h1 (Nat.le_refl _)).keep k (fun x hx hm => Nat.ne_of_lt (hn x (jl hx)) (by simpa using hm))
 rwa [List.take_of_length_le (by simp)] at h3
theorem ew (p : Nat) (rest : List UInt8) (e : Int) (w : World) (h : Rdr w p rest e) : Rets Try.prog 56 [.pointer (some ⟨p, 0, none⟩)] w (fun v w' => v = .int .i64 e ∧ w = w') := by
 obtain ⟨bw, hb, hr, hn⟩ := h
 refine ai Try.func56 rfl (by decide) Try.ntmps56 rfl (fun fin _ hfin => a5 (aZ (oga rfl rfl (a6 (a5 (a5 (aZ (ogm rfl rfl (a7 (nl Try.underlying77 rfl) rfl (ogm rfl rfl (aq 5 false rfl (fun c1 hgc1 => a9 [(0, _)] (ad rfl rfl rfl hgc1) ⟨bB rfl, trivial⟩ (fun hw1 => bC rfl) rfl (a9 [(6, _)] (ad rfl rfl rfl hgc1) ⟨ag rfl, trivial⟩ (fun hw2 => ao rfl) rfl (a9 [(7, _)] (ad rfl rfl rfl hgc1) ⟨ag rfl, trivial⟩ (fun hw3 => ak aD rfl ty4 (by decide) rfl) rfl (a9 [(8, _)] (ad rfl rfl rfl hgc1) ⟨ag rfl, trivial⟩ (fun hw4 => ae sc4 rfl ‹_› rfl) rfl (a9 [(9, _)] (ad rfl rfl rfl hgc1) ⟨ag rfl, trivial⟩ (fun hw5 => cd rfl) rfl ?_))))))))))))))))
 refine a7 (bP rfl rfl hgc1) rfl (a6 (dS rfl (rfl) (aj (a5 (aZ (ogm rfl rfl (a7 (ao rfl) rfl (a7 (ak aD rfl cX (by decide) rfl) rfl (a7 (ae jt rfl ‹_› rfl) rfl (oga rfl rfl (a6 (al hfin Try.results56 rfl ?_))))))))))))
 exact ⟨rfl, rfl⟩
theorem gG (p : Nat) (rest : List UInt8) (e size : Int) (w : World) (h : Rdr w p rest e) (hs : 0 ≤ size ∧ size ≤ rest.length) (h8 : size ≤ 7 ∨ (size = 8 ∧ (rest.getD 0 0).toNat < 64)) : Rets Try.prog 79 [.pointer (some ⟨p, 0, none⟩), .int .i64 size] w (fun v w' => v = .int .i64 (num (rest.take size.toNat)) ∧ w = w') := by
 obtain ⟨bw, hb, hr, hn⟩ := h
 have hcut0 := hr.cutB (l := 0) (hi := size.toNat) (Nat.zero_le _) (by omega)
 have hcut : RdB w (cut bw 0 size.toNat 1) (rest.take size.toNat) := by simpa using hcut0
 have hlt : (rest.take size.toNat).length = size.toNat := by rw [List.length_take]; omega
 have hbound : ∀ i : Int, 0 ≤ i → i + 1 ≤ size → 0 ≤ num (rest.take i.toNat) ∧ num (rest.take i.toNat) * 256 + 255 < 9223372036854775808 := fN hs.2 h8
 refine ai Try.func79 rfl (by decide) Try.ntmps79 rfl (fun fin _ hfin => a5 (aZ (oga rfl rfl (a6 (a5 (aZ (oga rfl rfl (a6 (a5 (a5 (aZ (ogm rfl rfl (a7 (ao rfl) rfl (a7 (ak aD rfl am (by decide) rfl) rfl (a7 (ae aw rfl ‹_› rfl) rfl (ogm rfl rfl (a7 (go aA cT rfl (by first | assumption | exact Own.rd ‹_› | exact Rd.oC ‹_› hB | exact Own.rd (Own.oC ‹_› hB)) (.inl ⟨rfl, rfl⟩) (.inr ⟨_, _, rfl, rfl⟩) ⟨by omega, by omega, by have := hr.vcap; omega⟩) rfl (a7 (ay aA rfl hcut) rfl (ogm rfl rfl (a6 (bA (cO (Γ := Int) (fun i => [(5, .int .i64 (num (rest.take i.toNat))), (13, cut bw 0 size.toNat 1), (14, .int .i64 (rest.take size.toNat).length), (15, .int .i64 i)]) (fun i W => 0 ≤ i ∧ i ≤ size ∧ w = W) (fun i => (size - i).toNat) 0 ⟨rfl, rfl, rfl, rfl, trivial⟩ (⟨by decide, by omega, rfl⟩) ?_))))))))))))))))))))))
 rintro i w1 ⟨hi0, hi1, rfl⟩
 refine af [(5, .int .i64 (num (rest.take i.toNat))), (13, cut bw 0 size.toNat 1), (14, .int .i64 (rest.take size.toNat).length), (15, .int .i64 i)] ⟨rfl, rfl, rfl, rfl, trivial⟩ (a5 (aZ (a7 (cN rfl rfl) rfl (a6 (a5 (bF rfl (fun hc1 => ?_) (fun hc1 => ?_)))))))
 ·
  refine aj (a5 (bA (a5 (aZ (a7 (eF aA cT rfl hcut rfl (by omega)) rfl ?_)))))
  have hget : (rest.take size.toNat)[i.toNat]? = rest[i.toNat]? := by rw [List.getElem?_take, if_pos (by omega)]
  obtain ⟨x, hx⟩ : ∃ x, rest[i.toNat]? = some x := ⟨_, List.getElem?_eq_getElem (by omega)⟩
  have hgb : gb (rest.take size.toNat) i = x.toNat := by unfold gb; rw [List.getD_eq_getElem?_getD, hget, hx]; rfl
  have hxl := x.toNat_lt
  have hnum : num (rest.take (i + 1).toNat) = num (rest.take i.toNat) * 256 + x.toNat := by rw [show (i + 1).toNat = i.toNat + 1 from by omega, cQ hx, eO]
  have hbd := hbound i hi0 (by omega)
  have hor : bits .or .i64 (num (rest.take i.toNat) * 256) x.toNat = num (rest.take (i + 1).toNat) := by rw [hnum]; exact lK 8 (by omega) (by omega) (by omega) (by omega) (by omega) (by omega)
  refine a7 (v := .int .u8 (x.toNat : Int)) (by rw [← hgb]; exact gh sc5 rfl hcut ⟨by omega, by omega⟩) rfl (oga rfl rfl (a6 (aZ (ogm rfl rfl (a7 (lr (m := 256) rfl rfl (by decide) (by decide) (by omega)) rfl (ogm rfl rfl (a7 (lu (by rw [aG]; rfl) aM rfl (by omega)) rfl (a7 (nk rfl rfl) rfl (oga rfl rfl (a6 (cG (aZ (a7 (bN rfl rfl (by omega)) rfl (ogm rfl rfl (a6 (cP (Γ := Int) (i + 1) ⟨congrArg (fun z : Int => some (Value.int .i64 z)) hor, rfl, rfl, rfl, trivial⟩ (by (try dsimp only); omega) (⟨by omega, by omega, rfl⟩)))))))))))))))))
 ·
  refine bd rfl (a5 (aZ (ogm rfl rfl (oga rfl rfl (a6 (al hfin Try.results79 rfl ?_))))))
  obtain rfl : i = size := by omega
  exact ⟨rfl, rfl⟩
theorem dy (p : Nat) (rest : List UInt8) (e size : Int) (w : World) (h : Rdr w p rest e) (hs : size = 1 ∨ size = 2 ∨ size = 4 ∨ size = 8) : Rets Try.prog 37 [.pointer (some ⟨p, 0, none⟩), .int .i64 size] w (fun v w' => ∃ r, r = rNum (bitsOf size) rest e size ∧ v = .int .i64 r.1 ∧ Rdr w' p r.2.1 r.2.2 ∧ Keep [p] w w') := by
 obtain ⟨bw, hb, hr, hn⟩ := h
 have hB : Keep [p] w w := Keep.refl _ _
 have hgb0 : gb rest 0 = ((rest.getD 0 0).toNat : Int) := rfl
 have hcap := hr.vcap
 refine ai Try.func37 rfl (by decide) Try.ntmps37 rfl (fun fin _ hfin => a5 (aZ (oga rfl rfl (a6 (jn 1 (a5 (a5 (aZ (ogm rfl rfl (ah (ab (vs := [_]) rfl (ew _ _ _ _ (by exact ⟨bw, hb, hr, hn⟩))) rfl ?_))))))))))
 rintro _ _ ⟨rfl, rfl⟩
 refine a7 (bn rfl rfl) rfl (a6 (bF rfl (fun hc1 => ?_) (fun hc1 => ?_)))
 ·
  refine a5 (aZ (oga rfl rfl (a6 (al hfin Try.results37 rfl ?_))))
  refine ⟨(0, rest, e), ?_, rfl, ⟨bw, hb, hr, hn⟩, hB⟩
  unfold rNum
  repeat (first | rw [if_pos ‹_›] | rw [if_neg ‹_›] | rw [if_pos (by omega)] | rw [if_neg (by omega)])
  all_goals first | rfl | (refine Prod.ext rfl (Prod.ext rfl ?_); show _ = _; dsimp only; omega)
 ·
  refine aj (a5 (aZ (ogm rfl rfl (ah (ab (vs := [_]) rfl (kd _ _)) rfl ?_))))
  rintro _ w1 ⟨rfl, rfl⟩
  refine oga rfl rfl (a6 (a5 (a5 (aZ (ogm rfl rfl (a7 (cN rfl rfl) rfl (a6 (bF rfl (fun hc2 => ?_) (fun hc2 => ?_)))))))))
  ·
   refine a5 (aZ (ogm rfl rfl (a7 (ao rfl) rfl (a7 (ak aD rfl cX (by decide) rfl) rfl (an (bV cX rfl rfl rfl hb rfl) ?_)))))
   rintro _ w2 ⟨hq1, k1, z1⟩
   have hR : Rdr w2 p rest 1 := Rdr.setE hq1 hr hn k1
   replace hB := hB.trans k1
   refine a6 (ct rfl (a5 (aj (a5 (aZ (ogm rfl rfl (oga rfl rfl (a6 (al hfin Try.results37 rfl ?_)))))))))
   refine ⟨(0, rest, 1), ?_, rfl, hR, hB⟩
   unfold rNum
   repeat (first | rw [if_pos ‹_›] | rw [if_neg ‹_›] | rw [if_pos (by omega)] | rw [if_neg (by omega)])
   all_goals first | rfl | (refine Prod.ext rfl (Prod.ext rfl ?_); show _ = _; dsimp only; omega)
  ·
   refine aj (a5 (a5 (aZ (ogm rfl rfl (a7 (ao rfl) rfl (a7 (ak aD rfl am (by decide) rfl) rfl (a7 (ae aw rfl ‹_› rfl) rfl (a7 (ay aA rfl (by first | assumption | exact Own.rd ‹_› | exact Rd.oC ‹_› hB | exact Own.rd (Own.oC ‹_› hB))) rfl (ogm rfl rfl (a7 (cN rfl rfl) rfl (a6 (bF rfl (fun hc3 => ?_) (fun hc3 => ?_)))))))))))))
   ·
    refine a5 (aZ (ogm rfl rfl (a7 (ao rfl) rfl (a7 (ak aD rfl cX (by decide) rfl) rfl (an (bV cX rfl rfl rfl hb rfl) ?_)))))
    rintro _ w3 ⟨hq2, k2, z2⟩
    have hR : Rdr w3 p rest 20 := Rdr.setE hq2 hr hn k2
    replace hB := hB.trans k2
    refine a6 (ct rfl (a5 (aj (a5 (aZ (ogm rfl rfl (oga rfl rfl (a6 (al hfin Try.results37 rfl ?_)))))))))
    refine ⟨(0, rest, 20), ?_, rfl, hR, hB⟩
    unfold rNum
    repeat (first | rw [if_pos ‹_›] | rw [if_neg ‹_›] | rw [if_pos (by omega)] | rw [if_neg (by omega)])
    all_goals first | rfl | (refine Prod.ext rfl (Prod.ext rfl ?_); show _ = _; dsimp only; omega)
   ·
    refine aj (a5 (a5 (aZ (ogm rfl rfl (a7 (bE rfl rfl) rfl (ogm rfl rfl (aq 28 true rfl (fun c1 hgc1 => a9 [(0, _)] (ad rfl rfl rfl hgc1) ⟨bB rfl, trivial⟩ (fun hw1 => bC rfl) rfl (a9 [(29, _)] (ad rfl rfl rfl hgc1) ⟨ag rfl, trivial⟩ (fun hw2 => ao rfl) rfl (a9 [(30, _)] (ad rfl rfl rfl hgc1) ⟨ag rfl, trivial⟩ (fun hw3 => ak aD rfl am (by decide) rfl) rfl (a9 [(31, _)] (ad rfl rfl rfl hgc1) ⟨ag rfl, trivial⟩ (fun hw4 => ae aw rfl ‹_› rfl) rfl (a9 [(32, _)] (ad rfl rfl rfl hgc1) ⟨ag rfl, trivial⟩ (fun hw5 => eF aA cT rfl (by first | assumption | exact Own.rd ‹_› | exact Rd.oC ‹_› hB | exact Own.rd (Own.oC ‹_› hB)) rfl (by omega)) rfl (a9 [(33, _)] (ad rfl rfl rfl hgc1) ⟨ag rfl, trivial⟩ (fun hw6 => gh sc5 rfl (by first | assumption | exact Own.rd ‹_› | exact Rd.oC ‹_› hB | exact Own.rd (Own.oC ‹_› hB)) (by omega)) rfl (a9 [(34, _)] (ad rfl rfl rfl hgc1) ⟨ag rfl, trivial⟩ (fun hw7 => gW rfl rfl) rfl ?_))))))))))))))
    refine a7 (bM rfl rfl hgc1) rfl (a6 (bD rfl (fun hc4 => ?_) (fun hc4 => ?_)))
    ·
     have hd1 := hc4
     try (simp only [Bool.and_eq_true, Bool.or_eq_true, decide_eq_true_eq, Bool.and_eq_false_iff, Bool.or_eq_false_iff, decide_eq_false_iff_not, Bool.not_eq_true', Bool.not_eq_false', Bool.not_eq_true, Bool.not_eq_false, ne_eq, Decidable.not_not, decide_true, decide_false, Bool.true_and, Bool.false_and, Bool.or_false, Bool.false_or, not_true_eq_false, false_or, or_false, true_and, and_true, not_false_eq_true, reduceCtorEq] at hd1)
     refine a5 (aZ (ogm rfl rfl (a7 (ao rfl) rfl (a7 (ak aD rfl cX (by decide) rfl) rfl (an (bV cX rfl rfl rfl hb rfl) ?_)))))
     rintro _ w4 ⟨hq3, k3, z3⟩
     have hR : Rdr w4 p rest 11 := Rdr.setE hq3 hr hn k3
     replace hB := hB.trans k3
     refine a6 (ct rfl (a5 (aj (a5 (aZ (ogm rfl rfl (oga rfl rfl (a6 (al hfin Try.results37 rfl ?_)))))))))
     refine ⟨(0, rest, 11), ?_, rfl, hR, hB⟩
     unfold rNum
     repeat (first | rw [if_pos ‹_›] | rw [if_neg ‹_›] | rw [if_pos (by omega)] | rw [if_neg (by omega)])
     all_goals first | rfl | (refine Prod.ext rfl (Prod.ext rfl ?_); show _ = _; dsimp only; omega)
    ·
     have hd2 := hc4
     try (simp only [Bool.and_eq_true, Bool.or_eq_true, decide_eq_true_eq, Bool.and_eq_false_iff, Bool.or_eq_false_iff, decide_eq_false_iff_not, Bool.not_eq_true', Bool.not_eq_false', Bool.not_eq_true, Bool.not_eq_false, ne_eq, Decidable.not_not, decide_true, decide_false, Bool.true_and, Bool.false_and, Bool.or_false, Bool.false_or, not_true_eq_false, false_or, or_false, true_and, and_true, not_false_eq_true, reduceCtorEq] at hd2)
     refine aj (a5 (aZ (ogm rfl rfl (ogm rfl rfl (ah (ab (vs := [_, _]) rfl (gG _ rest e _ _ (by exact ⟨bw, hb, hr, hn⟩) (by omega) (by omega))) rfl ?_)))))
     rintro _ _ ⟨rfl, rfl⟩
     refine oga rfl rfl (a6 (a5 (aZ (ogm rfl rfl (ogm rfl rfl (a7 (ao rfl) rfl (a7 (ak aD rfl am (by decide) rfl) rfl (a7 (ae aw rfl ‹_› rfl) rfl (ogm rfl rfl (a7 (go aA cT rfl (by first | assumption | exact Own.rd ‹_› | exact Rd.oC ‹_› hB | exact Own.rd (Own.oC ‹_› hB)) (.inr ⟨_, _, rfl, rfl⟩) (.inl ⟨rfl, rfl⟩) ⟨by omega, by omega, by omega⟩) rfl (a7 (ao rfl) rfl (a7 (ak aD rfl am (by decide) rfl) rfl (an (bV am rfl rfl hr.cutOne hb rfl) ?_)))))))))))))
     rintro _ w5 ⟨hq4, k4, z4⟩
     have hR : Rdr w5 p (rest.drop size.toNat) e := Rdr.setB hq4 hr hn k4 (by omega) (by omega)
     replace hB := hB.trans k4
     refine a6 (a5 (fF (a5 (aZ (ogm rfl rfl (oga rfl rfl (a6 (al hfin Try.results37 rfl ?_))))))))
     refine ⟨(num (rest.take size.toNat), rest.drop size.toNat, e), ?_, rfl, hR, hB⟩
     unfold rNum
     repeat (first | rw [if_pos ‹_›] | rw [if_neg ‹_›] | rw [if_pos (by omega)] | rw [if_neg (by omega)])
     all_goals first | rfl | (refine Prod.ext rfl (Prod.ext rfl ?_); show _ = _; dsimp only; omega)
theorem ju (p : Nat) (rest : List UInt8) (e : Int) (w : World) (h : Rdr w p rest e) : Rets Try.prog 82 [.pointer (some ⟨p, 0, none⟩)] w (fun v w' => ∃ r, r = rLen rest e ∧ v = .int .i64 r.1 ∧ Rdr w' p r.2.1 r.2.2 ∧ Keep [p] w w') := by
  obtain ⟨bw, hb, hr, hn⟩ := h
  have hB : Keep [p] w w := Keep.refl _ _
  have hgb0 : gb rest 0 = ((rest.getD 0 0).toNat : Int) := rfl
  have hcap := hr.vcap
  have hgr := gH rest 0
  have ht3 : top rest = (rest.getD 0 0).toNat / 64 := rfl
  have hnb : ∀ n, n ≤ 7 → 0 ≤ num (rest.take n) ∧ num (rest.take n) < 9223372036854775808 := jE rest
  have htop0 : rest.length = 0 → top rest = 0 := by intro h0; rw [List.length_eq_zero_iff] at h0; subst h0; rfl
  refine ai Try.func82 rfl (by decide) Try.ntmps82 rfl (fun fin _ hfin => a5 (aZ (oga rfl rfl (a6 (jn 1 (a5 (a5 (aZ ?_))))))))
  refine ogm rfl rfl (ah (ab (vs := [_]) rfl (ew _ _ _ _ (by exact ⟨bw, hb, hr, hn⟩))) rfl ?_)
  rintro _ _ ⟨rfl, rfl⟩
  refine a7 (bn rfl rfl) rfl (a6 (bF rfl (fun hc1 => ?_) (fun hc1 => ?_)))
  · -- yes
    refine a5 (aZ (oga rfl rfl (a6 (al hfin Try.results82 rfl ?_))))
    refine ⟨(0, rest, e), ?_, rfl, ⟨bw, hb, hr, hn⟩, hB⟩
    unfold rLen
    try rw [htop]
    try simp only [Nat.reducePow, Nat.reduceMul, Nat.reduceSub, Int.reducePow]
    repeat (first | rw [if_pos (by assumption)] | rw [if_neg (by assumption)] | rw [if_pos (by omega)] | rw [if_neg (by omega)])
    all_goals first | rfl | (refine Prod.ext rfl (Prod.ext rfl ?_); show _ = _; dsimp only; omega)
  · -- no
    refine aj (a5 (aZ (oga rfl rfl (oga rfl rfl (a6 (a5 (a5 (aZ ?_))))))))
    refine ogm rfl rfl (a7 (ao rfl) rfl (a7 (ak aD rfl am (by decide) rfl) rfl (a7 (ae aw rfl (by assumption) rfl) rfl (a7 (ay aA rfl (by first | assumption | exact Own.rd (by assumption) | exact Rd.oC (by assumption) hB | exact Own.rd (Own.oC (by assumption) hB))) rfl (a7 (dK rfl rfl) rfl (a6 (bF rfl (fun hc2 => ?_) (fun hc2 => ?_))))))))
    · -- yes
      refine a5 (aZ (ogm rfl rfl (a7 (ao rfl) rfl (a7 (ak aD rfl am (by decide) rfl) rfl (a7 (ae aw rfl (by assumption) rfl) rfl (a7 (eF aA cT rfl (by first | assumption | exact Own.rd (by assumption) | exact Rd.oC (by assumption) hB | exact Own.rd (Own.oC (by assumption) hB)) rfl (by omega)) rfl (a7 (gh sc5 rfl (by first | assumption | exact Own.rd (by assumption) | exact Rd.oC (by assumption) hB | exact Own.rd (Own.oC (by assumption) hB)) (by omega)) rfl (a7 (eo (m := 64) rfl rfl (by decide) (by decide)) rfl ?_))))))))
      refine a7 (lu (by rw [aG]; rfl) aM rfl (by omega)) rfl (oga rfl rfl (a6 ?_))
      rcases (show gb rest 0 / 64 = 0 ∨ gb rest 0 / 64 = 1 ∨ gb rest 0 / 64 = 2 ∨ gb rest 0 / 64 = 3 by omega) with hq | hq | hq | hq
      · have htop : top rest = 0 := by omega
        rw [hq]
        refine aZ (ogm rfl rfl (a7 (bI (j := 1) (cq rfl rfl (by decide)) (by decide)) rfl (oga rfl rfl (a6 (a5 (a5 (aZ (ogm rfl rfl ?_))))))))
        refine a7 (bE rfl rfl) rfl (a6 (dg rfl (by decide) (aj (a5 (a5 (aZ (ogm rfl rfl (a7 (ao rfl) rfl ?_))))))))
        refine a7 (ak aD rfl am (by decide) rfl) rfl (a7 (ae aw rfl (by assumption) rfl) rfl (a7 (ay aA rfl (by first | assumption | exact Own.rd (by assumption) | exact Rd.oC (by assumption) hB | exact Own.rd (Own.oC (by assumption) hB))) rfl (ogm rfl rfl (a7 (cN rfl rfl) rfl (a6 (bF rfl (fun hc3 => ?_) (fun hc3 => ?_)))))))
        · -- yes
          refine a5 (aZ (ogm rfl rfl (a7 (ao rfl) rfl (a7 (ak aD rfl cX (by decide) rfl) rfl (an (bV cX rfl rfl rfl hb rfl) ?_)))))
          rintro _ w1 ⟨hq1, k1, z1⟩
          have hR : Rdr w1 p rest 20 := Rdr.setE hq1 hr hn k1
          replace hB := hB.trans k1
          refine a6 (ct rfl (a5 (aj (a5 (aZ (ogm rfl rfl (oga rfl rfl (a6 ?_))))))))
          refine al hfin Try.results82 rfl ?_
          refine ⟨(0, rest, 20), ?_, rfl, hR, hB⟩
          unfold rLen
          try rw [htop]
          try simp only [Nat.reducePow, Nat.reduceMul, Nat.reduceSub, Int.reducePow]
          repeat (first | rw [if_pos (by assumption)] | rw [if_neg (by assumption)] | rw [if_pos (by omega)] | rw [if_neg (by omega)])
          all_goals first | rfl | (refine Prod.ext rfl (Prod.ext rfl ?_); show _ = _; dsimp only; omega)
        · -- no
          refine aj (a5 (fG mixed [(0, _), (3, _), (5, _), (6, _), (7, _), (4, _), (8, _), (9, _), (10, _), (11, _), (12, _), (13, _), (14, _), (15, _), (16, _), (17, _), (18, _), (19, _), (20, _), (21, _), (22, _), (23, _), (24, _), (25, _), (29, _), (30, _), (31, _), (32, _), (33, _), (34, _), (35, _)] (fun jj v W => match jj with | 0 => v = .pointer (some ⟨p, 0, none⟩) | 1 => v = .int .i64 1 | 2 => v = .int .i64 (num (rest.take 1)) | 3 => v = .int .i64 1 | 4 => v = .int .i64 8 | 5 => v = .int .i64 6 | 6 => v = .int .i64 64 | 7 => v = .int .i64 63 | 8 => v = .int .i64 (bits .and .i64 (num (rest.take 1)) 63) | 9 => v = .int .i64 (bits .and .i64 (num (rest.take 1)) 63) | _ => True) ⟨rfl, rfl, rfl, rfl, rfl, rfl, rfl, rfl, rfl, rfl, rfl, rfl, rfl, rfl, rfl, rfl, rfl, rfl, rfl, rfl, rfl, rfl, rfl, rfl, rfl, rfl, rfl, rfl, rfl, rfl, rfl, trivial⟩ (by decide) rfl ?_ ?_ ?_))
          · intro jj v W W' h k
            match jj, h with
            | 0, h => exact h
            | 1, h => exact h
            | 2, h => exact h
            | 3, h => exact h
            | 4, h => exact h
            | 5, h => exact h
            | 6, h => exact h
            | 7, h => exact h
            | 8, h => exact h
            | 9, h => exact h
            | _ + 10, _ => trivial
          · refine ⟨?_, ?_, ?_, ?_, ?_, ?_, ?_, ?_, ?_, ?_, trivial⟩
            · refine ⟨[], rfl, ?_⟩; rintro W1 hk vs hd
              replace hB := hB.trans hk.weak
              refine ⟨true, fun a _ => rfl, fun _ => (aa [(0, _)] ⟨rfl, trivial⟩ ?_), fun h => by cases h⟩
              refine (Gives.does (bC rfl)).mono ?_
              rintro v W2 ⟨rfl, rfl⟩
              exact ⟨Keep.refl _ _, rfl⟩
            · refine ⟨[], rfl, ?_⟩; rintro W1 hk vs hd
              replace hB := hB.trans hk.weak
              refine ⟨true, fun a _ => rfl, fun _ => (aa [(3, _)] ⟨rfl, trivial⟩ ?_), fun h => by cases h⟩
              refine (Gives.does (bC rfl)).mono ?_
              rintro v W2 ⟨rfl, rfl⟩
              exact ⟨Keep.refl _ _, rfl⟩
            · refine ⟨[0, 1], rfl, ?_⟩; rintro W1 hk vs hd
              have d0 : (vs 0) = .pointer (some ⟨p, 0, none⟩) := hd 0 (by decide)
              have d1 : (vs 1) = .int .i64 1 := hd 1 (by decide)
              replace hB := hB.trans hk.weak
              refine ⟨true, fun a _ => rfl, fun _ => (aa [(39, .pointer (some ⟨p, 0, none⟩)), (40, .int .i64 1)] ⟨congrArg some d0, congrArg some d1, trivial⟩ ?_), fun h => by cases h⟩
              refine (ab (vs := [_, _]) rfl (gG _ rest e _ W1 (Rdr.oC (by exact ⟨bw, hb, hr, hn⟩) hk) (by omega) (by omega))).mono ?_
              rintro v W2 ⟨rfl, rfl⟩
              exact ⟨Keep.refl _ _, rfl⟩
            · refine ⟨[], rfl, ?_⟩; rintro W1 hk vs hd
              replace hB := hB.trans hk.weak
              refine ⟨true, fun a _ => rfl, fun _ => (aa [(3, _)] ⟨rfl, trivial⟩ ?_), fun h => by cases h⟩
              refine (Gives.does (bC rfl)).mono ?_
              rintro v W2 ⟨rfl, rfl⟩
              exact ⟨Keep.refl _ _, rfl⟩
            · refine ⟨[3], rfl, ?_⟩; rintro W1 hk vs hd
              have d3 : (vs 3) = .int .i64 1 := hd 3 (by decide)
              replace hB := hB.trans hk.weak
              refine ⟨true, fun a _ => rfl, fun _ => (aa [(42, .int .i64 1)] ⟨congrArg some d3, trivial⟩ ?_), fun h => by cases h⟩
              refine (Gives.does (bI (j := 8) (ck rfl rfl) (by decide))).mono ?_
              rintro v W2 ⟨rfl, rfl⟩
              exact ⟨Keep.refl _ _, rfl⟩
            · refine ⟨[4], rfl, ?_⟩; rintro W1 hk vs hd
              have d4 : (vs 4) = .int .i64 8 := hd 4 (by decide)
              replace hB := hB.trans hk.weak
              refine ⟨true, fun a _ => rfl, fun _ => (aa [(43, .int .i64 8)] ⟨congrArg some d4, trivial⟩ ?_), fun h => by cases h⟩
              refine (Gives.does (bI (j := 6) (cD rfl rfl) (by decide))).mono ?_
              rintro v W2 ⟨rfl, rfl⟩
              exact ⟨Keep.refl _ _, rfl⟩
            · refine ⟨[5], rfl, ?_⟩; rintro W1 hk vs hd
              have d5 : (vs 5) = .int .i64 6 := hd 5 (by decide)
              replace hB := hB.trans hk.weak
              refine ⟨true, fun a _ => rfl, fun _ => (aa [(44, .int .i64 6)] ⟨congrArg some d5, trivial⟩ ?_), fun h => by cases h⟩
              refine (Gives.does (bI (j := 64) (cq rfl rfl (by decide)) (by decide))).mono ?_
              rintro v W2 ⟨rfl, rfl⟩
              exact ⟨Keep.refl _ _, rfl⟩
            · refine ⟨[6], rfl, ?_⟩; rintro W1 hk vs hd
              have d6 : (vs 6) = .int .i64 64 := hd 6 (by decide)
              replace hB := hB.trans hk.weak
              refine ⟨true, fun a _ => rfl, fun _ => (aa [(45, .int .i64 64)] ⟨congrArg some d6, trivial⟩ ?_), fun h => by cases h⟩
              refine (Gives.does (bI (j := 63) (cD rfl rfl) (by decide))).mono ?_
              rintro v W2 ⟨rfl, rfl⟩
              exact ⟨Keep.refl _ _, rfl⟩
            · refine ⟨[2, 7], rfl, ?_⟩; rintro W1 hk vs hd
              have d2 : (vs 2) = .int .i64 (num (rest.take 1)) := hd 2 (by decide)
              have d7 : (vs 7) = .int .i64 63 := hd 7 (by decide)
              replace hB := hB.trans hk.weak
              refine ⟨true, fun a _ => rfl, fun _ => (aa [(41, .int .i64 (num (rest.take 1))), (46, .int .i64 63)] ⟨congrArg some d2, congrArg some d7, trivial⟩ ?_), fun h => by cases h⟩
              refine (Gives.does (iU rfl rfl)).mono ?_
              rintro v W2 ⟨rfl, rfl⟩
              exact ⟨Keep.refl _ _, rfl⟩
            · refine ⟨[8], rfl, ?_⟩; rintro W1 hk vs hd
              have d8 : (vs 8) = .int .i64 (bits .and .i64 (num (rest.take 1)) 63) := hd 8 (by decide)
              replace hB := hB.trans hk.weak
              refine ⟨true, fun a _ => rfl, fun _ => (aa [(47, .int .i64 (bits .and .i64 (num (rest.take 1)) 63))] ⟨congrArg some d8, trivial⟩ ?_), fun h => by cases h⟩
              refine (Gives.does (kV rfl)).mono ?_
              rintro v W2 ⟨rfl, rfl⟩
              exact ⟨Keep.refl _ _, rfl⟩
          rintro w2 k2 vs hv
          have z_k2 := k2.size
          replace hB := hB.trans k2.weak
          have e2 : (vs 9) = .int .i64 (bits .and .i64 (num (rest.take 1)) 63) := hv 9 (by decide) rfl
          refine af [(2, .int .i64 (bits .and .i64 (num (rest.take 1)) 63)), (0, _), (3, _), (5, _), (6, _), (7, _), (4, _), (8, _), (9, _), (10, _), (11, _), (12, _), (13, _), (14, _), (15, _), (16, _), (17, _), (18, _), (19, _), (20, _), (21, _), (22, _), (23, _), (24, _), (25, _), (29, _), (30, _), (31, _), (32, _), (33, _), (34, _), (35, _)] ⟨congrArg some e2, rfl, rfl, rfl, rfl, rfl, rfl, rfl, rfl, rfl, rfl, rfl, rfl, rfl, rfl, rfl, rfl, rfl, rfl, rfl, rfl, rfl, rfl, rfl, rfl, rfl, rfl, rfl, rfl, rfl, rfl, rfl, trivial⟩ ?_
          replace hb := hb.oC k2; replace hr := hr.oC k2
          have hmask : bits .and .i64 (num (rest.take 1)) 63 = num (rest.take 1) % 64 := by exact dq 6 (by decide) (hnb 1 (by decide)).1 (hnb 1 (by decide)).2
          rw [hmask]
          refine a5 (a5 (aZ (ogm rfl rfl (a7 (dK rfl rfl) rfl (ogm rfl rfl (aq 50 true rfl (fun c1 hgc1 => a9 [(2, _)] (ad rfl rfl rfl hgc1) ⟨bB rfl, trivial⟩ (fun hw1 => bC rfl) rfl (a9 [(3, _)] (ad rfl rfl rfl hgc1) ⟨bB rfl, trivial⟩ (fun hw2 => bC rfl) rfl ?_))))))))
          refine a9 [(52, _)] (ad rfl rfl rfl hgc1) ⟨ag rfl, trivial⟩ (fun hw3 => bI (j := 4) (ck rfl rfl) (by decide)) rfl (a9 [(53, _)] (ad rfl rfl rfl hgc1) ⟨ag rfl, trivial⟩ (fun hw4 => bI (j := 2) (cD rfl rfl) (by decide)) rfl (a9 [(51, _), (54, _)] (ad rfl rfl rfl hgc1) ⟨ag rfl, ag rfl, trivial⟩ (fun hw5 => eo (m := 4) rfl rfl (by decide) (by decide)) rfl (a9 [(55, _)] (ad rfl rfl rfl hgc1) ⟨ag rfl, trivial⟩ (fun hw6 => bE rfl rfl) rfl (a7 (bM rfl rfl hgc1) rfl (a6 (bD rfl (fun hc4 => ?_) (fun hc4 => ?_)))))))
          · -- yes
            have hd1 := hc4
            try (simp only [Bool.and_eq_true, Bool.or_eq_true, decide_eq_true_eq, Bool.and_eq_false_iff, Bool.or_eq_false_iff, decide_eq_false_iff_not, Bool.not_eq_true', Bool.not_eq_false', Bool.not_eq_true, Bool.not_eq_false, ne_eq, Decidable.not_not, decide_true, decide_false, Bool.true_and, Bool.false_and, Bool.or_false, Bool.false_or, not_true_eq_false, false_or, or_false, true_and, and_true, not_false_eq_true, reduceCtorEq] at hd1)
            refine a5 (aZ (ogm rfl rfl (oga rfl rfl (a7 (ao rfl) rfl (a7 (ak aD rfl cX (by decide) rfl) rfl (an (bV cX rfl rfl rfl hb rfl) ?_))))))
            rintro _ w3 ⟨hq2, k3, z2⟩
            have hR : Rdr w3 p rest 21 := Rdr.setE hq2 hr hn k3
            replace hB := hB.trans k3
            refine a6 (ct rfl (a5 (aj (a5 (aZ (ogm rfl rfl (oga rfl rfl (a6 ?_))))))))
            refine al hfin Try.results82 rfl ?_
            refine ⟨(0, rest, 21), ?_, rfl, hR, hB⟩
            unfold rLen
            try rw [htop]
            try simp only [Nat.reducePow, Nat.reduceMul, Nat.reduceSub, Int.reducePow]
            repeat (first | rw [if_pos (by assumption)] | rw [if_neg (by assumption)] | rw [if_pos (by omega)] | rw [if_neg (by omega)])
            all_goals first | rfl | (refine Prod.ext rfl (Prod.ext rfl ?_); show _ = _; dsimp only; omega)
          · -- no
            have hd2 := hc4
            try (simp only [Bool.and_eq_true, Bool.or_eq_true, decide_eq_true_eq, Bool.and_eq_false_iff, Bool.or_eq_false_iff, decide_eq_false_iff_not, Bool.not_eq_true', Bool.not_eq_false', Bool.not_eq_true, Bool.not_eq_false, ne_eq, Decidable.not_not, decide_true, decide_false, Bool.true_and, Bool.false_and, Bool.or_false, Bool.false_or, not_true_eq_false, false_or, or_false, true_and, and_true, not_false_eq_true, reduceCtorEq] at hd2)
            refine aj (a5 (aZ (ogm rfl rfl (ogm rfl rfl (a7 (ao rfl) rfl (a7 (ak aD rfl am (by decide) rfl) rfl (a7 (ae aw rfl (by assumption) rfl) rfl (ogm rfl rfl ?_))))))))
            refine a7 (go aA cT rfl (by first | assumption | exact Own.rd (by assumption) | exact Rd.oC (by assumption) hB | exact Own.rd (Own.oC (by assumption) hB)) (.inr ⟨_, _, rfl, rfl⟩) (.inl ⟨rfl, rfl⟩) ⟨by omega, by omega, by omega⟩) rfl (a7 (ao rfl) rfl (a7 (ak aD rfl am (by decide) rfl) rfl (an (bV am rfl rfl hr.cutOne hb rfl) ?_)))
            rintro _ w4 ⟨hq3, k4, z3⟩
            have hR : Rdr w4 p (rest.drop (1 : Int).toNat) e := Rdr.setB hq3 hr hn k4 (by omega) (by omega)
            replace hB := hB.trans k4
            refine a6 (a5 (fF (a5 (aZ (ogm rfl rfl (oga rfl rfl (a6 (al hfin Try.results82 rfl ?_))))))))
            refine ⟨(num (rest.take 1) % 64, rest.drop (1 : Int).toNat, e), ?_, rfl, hR, hB⟩
            unfold rLen
            try rw [htop]
            try simp only [Nat.reducePow, Nat.reduceMul, Nat.reduceSub, Int.reducePow]
            repeat (first | rw [if_pos (by assumption)] | rw [if_neg (by assumption)] | rw [if_pos (by omega)] | rw [if_neg (by omega)])
            all_goals first | rfl | (refine Prod.ext rfl (Prod.ext rfl ?_); show _ = _; dsimp only; omega)
      · have htop : top rest = 1 := by omega
        rw [hq]
        refine aZ (ogm rfl rfl (a7 (bI (j := 2) (cq rfl rfl (by decide)) (by decide)) rfl (oga rfl rfl (a6 (a5 (a5 (aZ (ogm rfl rfl ?_))))))))
        refine a7 (bE rfl rfl) rfl (a6 (dg rfl (by decide) (aj (a5 (a5 (aZ (ogm rfl rfl (a7 (ao rfl) rfl ?_))))))))
        refine a7 (ak aD rfl am (by decide) rfl) rfl (a7 (ae aw rfl (by assumption) rfl) rfl (a7 (ay aA rfl (by first | assumption | exact Own.rd (by assumption) | exact Rd.oC (by assumption) hB | exact Own.rd (Own.oC (by assumption) hB))) rfl (ogm rfl rfl (a7 (cN rfl rfl) rfl (a6 (bF rfl (fun hc5 => ?_) (fun hc5 => ?_)))))))
        · -- yes
          refine a5 (aZ (ogm rfl rfl (a7 (ao rfl) rfl (a7 (ak aD rfl cX (by decide) rfl) rfl (an (bV cX rfl rfl rfl hb rfl) ?_)))))
          rintro _ w5 ⟨hq4, k5, z4⟩
          have hR : Rdr w5 p rest 20 := Rdr.setE hq4 hr hn k5
          replace hB := hB.trans k5
          refine a6 (ct rfl (a5 (aj (a5 (aZ (ogm rfl rfl (oga rfl rfl (a6 ?_))))))))
          refine al hfin Try.results82 rfl ?_
          refine ⟨(0, rest, 20), ?_, rfl, hR, hB⟩
          unfold rLen
          try rw [htop]
          try simp only [Nat.reducePow, Nat.reduceMul, Nat.reduceSub, Int.reducePow]
          repeat (first | rw [if_pos (by assumption)] | rw [if_neg (by assumption)] | rw [if_pos (by omega)] | rw [if_neg (by omega)])
          all_goals first | rfl | (refine Prod.ext rfl (Prod.ext rfl ?_); show _ = _; dsimp only; omega)
        · -- no
          refine aj (a5 (fG mixed [(0, _), (3, _), (5, _), (6, _), (7, _), (4, _), (8, _), (9, _), (10, _), (11, _), (12, _), (13, _), (14, _), (15, _), (16, _), (17, _), (18, _), (19, _), (20, _), (21, _), (22, _), (23, _), (24, _), (25, _), (29, _), (30, _), (31, _), (32, _), (33, _), (34, _), (35, _)] (fun jj v W => match jj with | 0 => v = .pointer (some ⟨p, 0, none⟩) | 1 => v = .int .i64 2 | 2 => v = .int .i64 (num (rest.take 2)) | 3 => v = .int .i64 2 | 4 => v = .int .i64 16 | 5 => v = .int .i64 14 | 6 => v = .int .i64 16384 | 7 => v = .int .i64 16383 | 8 => v = .int .i64 (bits .and .i64 (num (rest.take 2)) 16383) | 9 => v = .int .i64 (bits .and .i64 (num (rest.take 2)) 16383) | _ => True) ⟨rfl, rfl, rfl, rfl, rfl, rfl, rfl, rfl, rfl, rfl, rfl, rfl, rfl, rfl, rfl, rfl, rfl, rfl, rfl, rfl, rfl, rfl, rfl, rfl, rfl, rfl, rfl, rfl, rfl, rfl, rfl, trivial⟩ (by decide) rfl ?_ ?_ ?_))
          · intro jj v W W' h k
            match jj, h with
            | 0, h => exact h
            | 1, h => exact h
            | 2, h => exact h
            | 3, h => exact h
            | 4, h => exact h
            | 5, h => exact h
            | 6, h => exact h
            | 7, h => exact h
            | 8, h => exact h
            | 9, h => exact h
            | _ + 10, _ => trivial
          · refine ⟨?_, ?_, ?_, ?_, ?_, ?_, ?_, ?_, ?_, ?_, trivial⟩
            · refine ⟨[], rfl, ?_⟩; rintro W1 hk vs hd
              replace hB := hB.trans hk.weak
              refine ⟨true, fun a _ => rfl, fun _ => (aa [(0, _)] ⟨rfl, trivial⟩ ?_), fun h => by cases h⟩
              refine (Gives.does (bC rfl)).mono ?_
              rintro v W2 ⟨rfl, rfl⟩
              exact ⟨Keep.refl _ _, rfl⟩
            · refine ⟨[], rfl, ?_⟩; rintro W1 hk vs hd
              replace hB := hB.trans hk.weak
              refine ⟨true, fun a _ => rfl, fun _ => (aa [(3, _)] ⟨rfl, trivial⟩ ?_), fun h => by cases h⟩
              refine (Gives.does (bC rfl)).mono ?_
              rintro v W2 ⟨rfl, rfl⟩
              exact ⟨Keep.refl _ _, rfl⟩
            · refine ⟨[0, 1], rfl, ?_⟩; rintro W1 hk vs hd
              have d0 : (vs 0) = .pointer (some ⟨p, 0, none⟩) := hd 0 (by decide)
              have d1 : (vs 1) = .int .i64 2 := hd 1 (by decide)
              replace hB := hB.trans hk.weak
              refine ⟨true, fun a _ => rfl, fun _ => (aa [(39, .pointer (some ⟨p, 0, none⟩)), (40, .int .i64 2)] ⟨congrArg some d0, congrArg some d1, trivial⟩ ?_), fun h => by cases h⟩
              refine (ab (vs := [_, _]) rfl (gG _ rest e _ W1 (Rdr.oC (by exact ⟨bw, hb, hr, hn⟩) hk) (by omega) (by omega))).mono ?_
              rintro v W2 ⟨rfl, rfl⟩
              exact ⟨Keep.refl _ _, rfl⟩
            · refine ⟨[], rfl, ?_⟩; rintro W1 hk vs hd
              replace hB := hB.trans hk.weak
              refine ⟨true, fun a _ => rfl, fun _ => (aa [(3, _)] ⟨rfl, trivial⟩ ?_), fun h => by cases h⟩
              refine (Gives.does (bC rfl)).mono ?_
              rintro v W2 ⟨rfl, rfl⟩
              exact ⟨Keep.refl _ _, rfl⟩
            · refine ⟨[3], rfl, ?_⟩; rintro W1 hk vs hd
              have d3 : (vs 3) = .int .i64 2 := hd 3 (by decide)
              replace hB := hB.trans hk.weak
              refine ⟨true, fun a _ => rfl, fun _ => (aa [(42, .int .i64 2)] ⟨congrArg some d3, trivial⟩ ?_), fun h => by cases h⟩
              refine (Gives.does (bI (j := 16) (ck rfl rfl) (by decide))).mono ?_
              rintro v W2 ⟨rfl, rfl⟩
              exact ⟨Keep.refl _ _, rfl⟩
            · refine ⟨[4], rfl, ?_⟩; rintro W1 hk vs hd
              have d4 : (vs 4) = .int .i64 16 := hd 4 (by decide)
              replace hB := hB.trans hk.weak
              refine ⟨true, fun a _ => rfl, fun _ => (aa [(43, .int .i64 16)] ⟨congrArg some d4, trivial⟩ ?_), fun h => by cases h⟩
              refine (Gives.does (bI (j := 14) (cD rfl rfl) (by decide))).mono ?_
              rintro v W2 ⟨rfl, rfl⟩
              exact ⟨Keep.refl _ _, rfl⟩
            · refine ⟨[5], rfl, ?_⟩; rintro W1 hk vs hd
              have d5 : (vs 5) = .int .i64 14 := hd 5 (by decide)
              replace hB := hB.trans hk.weak
              refine ⟨true, fun a _ => rfl, fun _ => (aa [(44, .int .i64 14)] ⟨congrArg some d5, trivial⟩ ?_), fun h => by cases h⟩
              refine (Gives.does (bI (j := 16384) (cq rfl rfl (by decide)) (by decide))).mono ?_
              rintro v W2 ⟨rfl, rfl⟩
              exact ⟨Keep.refl _ _, rfl⟩
            · refine ⟨[6], rfl, ?_⟩; rintro W1 hk vs hd
              have d6 : (vs 6) = .int .i64 16384 := hd 6 (by decide)
              replace hB := hB.trans hk.weak
              refine ⟨true, fun a _ => rfl, fun _ => (aa [(45, .int .i64 16384)] ⟨congrArg some d6, trivial⟩ ?_), fun h => by cases h⟩
              refine (Gives.does (bI (j := 16383) (cD rfl rfl) (by decide))).mono ?_
              rintro v W2 ⟨rfl, rfl⟩
              exact ⟨Keep.refl _ _, rfl⟩
            · refine ⟨[2, 7], rfl, ?_⟩; rintro W1 hk vs hd
              have d2 : (vs 2) = .int .i64 (num (rest.take 2)) := hd 2 (by decide)
              have d7 : (vs 7) = .int .i64 16383 := hd 7 (by decide)
              replace hB := hB.trans hk.weak
              refine ⟨true, fun a _ => rfl, fun _ => (aa [(41, .int .i64 (num (rest.take 2))), (46, .int .i64 16383)] ⟨congrArg some d2, congrArg some d7, trivial⟩ ?_), fun h => by cases h⟩
              refine (Gives.does (iU rfl rfl)).mono ?_
              rintro v W2 ⟨rfl, rfl⟩
              exact ⟨Keep.refl _ _, rfl⟩
            · refine ⟨[8], rfl, ?_⟩; rintro W1 hk vs hd
              have d8 : (vs 8) = .int .i64 (bits .and .i64 (num (rest.take 2)) 16383) := hd 8 (by decide)
              replace hB := hB.trans hk.weak
              refine ⟨true, fun a _ => rfl, fun _ => (aa [(47, .int .i64 (bits .and .i64 (num (rest.take 2)) 16383))] ⟨congrArg some d8, trivial⟩ ?_), fun h => by cases h⟩
              refine (Gives.does (kV rfl)).mono ?_
              rintro v W2 ⟨rfl, rfl⟩
              exact ⟨Keep.refl _ _, rfl⟩
          rintro w6 k6 vs hv
          have z_k6 := k6.size
          replace hB := hB.trans k6.weak
          have e2 : (vs 9) = .int .i64 (bits .and .i64 (num (rest.take 2)) 16383) := hv 9 (by decide) rfl
          refine af [(2, .int .i64 (bits .and .i64 (num (rest.take 2)) 16383)), (0, _), (3, _), (5, _), (6, _), (7, _), (4, _), (8, _), (9, _), (10, _), (11, _), (12, _), (13, _), (14, _), (15, _), (16, _), (17, _), (18, _), (19, _), (20, _), (21, _), (22, _), (23, _), (24, _), (25, _), (29, _), (30, _), (31, _), (32, _), (33, _), (34, _), (35, _)] ⟨congrArg some e2, rfl, rfl, rfl, rfl, rfl, rfl, rfl, rfl, rfl, rfl, rfl, rfl, rfl, rfl, rfl, rfl, rfl, rfl, rfl, rfl, rfl, rfl, rfl, rfl, rfl, rfl, rfl, rfl, rfl, rfl, rfl, trivial⟩ ?_
          replace hb := hb.oC k6; replace hr := hr.oC k6
          have hmask : bits .and .i64 (num (rest.take 2)) 16383 = num (rest.take 2) % 16384 := by exact dq 14 (by decide) (hnb 2 (by decide)).1 (hnb 2 (by decide)).2
          rw [hmask]
          refine a5 (a5 (aZ (ogm rfl rfl (a7 (dK rfl rfl) rfl (ogm rfl rfl (aq 50 true rfl (fun c2 hgc2 => a9 [(2, _)] (ad rfl rfl rfl hgc2) ⟨bB rfl, trivial⟩ (fun hw7 => bC rfl) rfl (a9 [(3, _)] (ad rfl rfl rfl hgc2) ⟨bB rfl, trivial⟩ (fun hw8 => bC rfl) rfl ?_))))))))
          refine a9 [(52, _)] (ad rfl rfl rfl hgc2) ⟨ag rfl, trivial⟩ (fun hw9 => bI (j := 8) (ck rfl rfl) (by decide)) rfl (a9 [(53, _)] (ad rfl rfl rfl hgc2) ⟨ag rfl, trivial⟩ (fun hw10 => bI (j := 6) (cD rfl rfl) (by decide)) rfl (a9 [(51, _), (54, _)] (ad rfl rfl rfl hgc2) ⟨ag rfl, ag rfl, trivial⟩ (fun hw11 => eo (m := 64) rfl rfl (by decide) (by decide)) rfl (a9 [(55, _)] (ad rfl rfl rfl hgc2) ⟨ag rfl, trivial⟩ (fun hw12 => bE rfl rfl) rfl (a7 (bM rfl rfl hgc2) rfl (a6 (bD rfl (fun hc6 => ?_) (fun hc6 => ?_)))))))
          · -- yes
            have hd3 := hc6
            try (simp only [Bool.and_eq_true, Bool.or_eq_true, decide_eq_true_eq, Bool.and_eq_false_iff, Bool.or_eq_false_iff, decide_eq_false_iff_not, Bool.not_eq_true', Bool.not_eq_false', Bool.not_eq_true, Bool.not_eq_false, ne_eq, Decidable.not_not, decide_true, decide_false, Bool.true_and, Bool.false_and, Bool.or_false, Bool.false_or, not_true_eq_false, false_or, or_false, true_and, and_true, not_false_eq_true, reduceCtorEq] at hd3)
            refine a5 (aZ (ogm rfl rfl (oga rfl rfl (a7 (ao rfl) rfl (a7 (ak aD rfl cX (by decide) rfl) rfl (an (bV cX rfl rfl rfl hb rfl) ?_))))))
            rintro _ w7 ⟨hq5, k7, z5⟩
            have hR : Rdr w7 p rest 21 := Rdr.setE hq5 hr hn k7
            replace hB := hB.trans k7
            refine a6 (ct rfl (a5 (aj (a5 (aZ (ogm rfl rfl (oga rfl rfl (a6 ?_))))))))
            refine al hfin Try.results82 rfl ?_
            refine ⟨(0, rest, 21), ?_, rfl, hR, hB⟩
            unfold rLen
            try rw [htop]
            try simp only [Nat.reducePow, Nat.reduceMul, Nat.reduceSub, Int.reducePow]
            repeat (first | rw [if_pos (by assumption)] | rw [if_neg (by assumption)] | rw [if_pos (by omega)] | rw [if_neg (by omega)])
            all_goals first | rfl | (refine Prod.ext rfl (Prod.ext rfl ?_); show _ = _; dsimp only; omega)
          · -- no
            have hd4 := hc6
            try (simp only [Bool.and_eq_true, Bool.or_eq_true, decide_eq_true_eq, Bool.and_eq_false_iff, Bool.or_eq_false_iff, decide_eq_false_iff_not, Bool.not_eq_true', Bool.not_eq_false', Bool.not_eq_true, Bool.not_eq_false, ne_eq, Decidable.not_not, decide_true, decide_false, Bool.true_and, Bool.false_and, Bool.or_false, Bool.false_or, not_true_eq_false, false_or, or_false, true_and, and_true, not_false_eq_true, reduceCtorEq] at hd4)
            refine aj (a5 (aZ (ogm rfl rfl (ogm rfl rfl (a7 (ao rfl) rfl (a7 (ak aD rfl am (by decide) rfl) rfl (a7 (ae aw rfl (by assumption) rfl) rfl (ogm rfl rfl ?_))))))))
            refine a7 (go aA cT rfl (by first | assumption | exact Own.rd (by assumption) | exact Rd.oC (by assumption) hB | exact Own.rd (Own.oC (by assumption) hB)) (.inr ⟨_, _, rfl, rfl⟩) (.inl ⟨rfl, rfl⟩) ⟨by omega, by omega, by omega⟩) rfl (a7 (ao rfl) rfl (a7 (ak aD rfl am (by decide) rfl) rfl (an (bV am rfl rfl hr.cutOne hb rfl) ?_)))
            rintro _ w8 ⟨hq6, k8, z6⟩
            have hR : Rdr w8 p (rest.drop (2 : Int).toNat) e := Rdr.setB hq6 hr hn k8 (by omega) (by omega)
            replace hB := hB.trans k8
            refine a6 (a5 (fF (a5 (aZ (ogm rfl rfl (oga rfl rfl (a6 (al hfin Try.results82 rfl ?_))))))))
            refine ⟨(num (rest.take 2) % 16384, rest.drop (2 : Int).toNat, e), ?_, rfl, hR, hB⟩
            unfold rLen
            try rw [htop]
            try simp only [Nat.reducePow, Nat.reduceMul, Nat.reduceSub, Int.reducePow]
            repeat (first | rw [if_pos (by assumption)] | rw [if_neg (by assumption)] | rw [if_pos (by omega)] | rw [if_neg (by omega)])
            all_goals first | rfl | (refine Prod.ext rfl (Prod.ext rfl ?_); show _ = _; dsimp only; omega)
      · have htop : top rest = 2 := by omega
        rw [hq]
        refine aZ (ogm rfl rfl (a7 (bI (j := 4) (cq rfl rfl (by decide)) (by decide)) rfl (oga rfl rfl (a6 (a5 (a5 (aZ (ogm rfl rfl ?_))))))))
        refine a7 (bE rfl rfl) rfl (a6 (dg rfl (by decide) (aj (a5 (a5 (aZ (ogm rfl rfl (a7 (ao rfl) rfl ?_))))))))
        refine a7 (ak aD rfl am (by decide) rfl) rfl (a7 (ae aw rfl (by assumption) rfl) rfl (a7 (ay aA rfl (by first | assumption | exact Own.rd (by assumption) | exact Rd.oC (by assumption) hB | exact Own.rd (Own.oC (by assumption) hB))) rfl (ogm rfl rfl (a7 (cN rfl rfl) rfl (a6 (bF rfl (fun hc7 => ?_) (fun hc7 => ?_)))))))
        · -- yes
          refine a5 (aZ (ogm rfl rfl (a7 (ao rfl) rfl (a7 (ak aD rfl cX (by decide) rfl) rfl (an (bV cX rfl rfl rfl hb rfl) ?_)))))
          rintro _ w9 ⟨hq7, k9, z7⟩
          have hR : Rdr w9 p rest 20 := Rdr.setE hq7 hr hn k9
          replace hB := hB.trans k9
          refine a6 (ct rfl (a5 (aj (a5 (aZ (ogm rfl rfl (oga rfl rfl (a6 ?_))))))))
          refine al hfin Try.results82 rfl ?_
          refine ⟨(0, rest, 20), ?_, rfl, hR, hB⟩
          unfold rLen
          try rw [htop]
          try simp only [Nat.reducePow, Nat.reduceMul, Nat.reduceSub, Int.reducePow]
          repeat (first | rw [if_pos (by assumption)] | rw [if_neg (by assumption)] | rw [if_pos (by omega)] | rw [if_neg (by omega)])
          all_goals first | rfl | (refine Prod.ext rfl (Prod.ext rfl ?_); show _ = _; dsimp only; omega)
        · -- no
          refine aj (a5 (fG mixed [(0, _), (3, _), (5, _), (6, _), (7, _), (4, _), (8, _), (9, _), (10, _), (11, _), (12, _), (13, _), (14, _), (15, _), (16, _), (17, _), (18, _), (19, _), (20, _), (21, _), (22, _), (23, _), (24, _), (25, _), (29, _), (30, _), (31, _), (32, _), (33, _), (34, _), (35, _)] (fun jj v W => match jj with | 0 => v = .pointer (some ⟨p, 0, none⟩) | 1 => v = .int .i64 4 | 2 => v = .int .i64 (num (rest.take 4)) | 3 => v = .int .i64 4 | 4 => v = .int .i64 32 | 5 => v = .int .i64 30 | 6 => v = .int .i64 1073741824 | 7 => v = .int .i64 1073741823 | 8 => v = .int .i64 (bits .and .i64 (num (rest.take 4)) 1073741823) | 9 => v = .int .i64 (bits .and .i64 (num (rest.take 4)) 1073741823) | _ => True) ⟨rfl, rfl, rfl, rfl, rfl, rfl, rfl, rfl, rfl, rfl, rfl, rfl, rfl, rfl, rfl, rfl, rfl, rfl, rfl, rfl, rfl, rfl, rfl, rfl, rfl, rfl, rfl, rfl, rfl, rfl, rfl, trivial⟩ (by decide) rfl ?_ ?_ ?_))
          · intro jj v W W' h k
            match jj, h with
            | 0, h => exact h
            | 1, h => exact h
            | 2, h => exact h
            | 3, h => exact h
            | 4, h => exact h
            | 5, h => exact h
            | 6, h => exact h
            | 7, h => exact h
            | 8, h => exact h
            | 9, h => exact h
            | _ + 10, _ => trivial
          · refine ⟨?_, ?_, ?_, ?_, ?_, ?_, ?_, ?_, ?_, ?_, trivial⟩
            · refine ⟨[], rfl, ?_⟩; rintro W1 hk vs hd
              replace hB := hB.trans hk.weak
              refine ⟨true, fun a _ => rfl, fun _ => (aa [(0, _)] ⟨rfl, trivial⟩ ?_), fun h => by cases h⟩
              refine (Gives.does (bC rfl)).mono ?_
              rintro v W2 ⟨rfl, rfl⟩
              exact ⟨Keep.refl _ _, rfl⟩
            · refine ⟨[], rfl, ?_⟩; rintro W1 hk vs hd
              replace hB := hB.trans hk.weak
              refine ⟨true, fun a _ => rfl, fun _ => (aa [(3, _)] ⟨rfl, trivial⟩ ?_), fun h => by cases h⟩
              refine (Gives.does (bC rfl)).mono ?_
              rintro v W2 ⟨rfl, rfl⟩
              exact ⟨Keep.refl _ _, rfl⟩
            · refine ⟨[0, 1], rfl, ?_⟩; rintro W1 hk vs hd
              have d0 : (vs 0) = .pointer (some ⟨p, 0, none⟩) := hd 0 (by decide)
              have d1 : (vs 1) = .int .i64 4 := hd 1 (by decide)
              replace hB := hB.trans hk.weak
              refine ⟨true, fun a _ => rfl, fun _ => (aa [(39, .pointer (some ⟨p, 0, none⟩)), (40, .int .i64 4)] ⟨congrArg some d0, congrArg some d1, trivial⟩ ?_), fun h => by cases h⟩
              refine (ab (vs := [_, _]) rfl (gG _ rest e _ W1 (Rdr.oC (by exact ⟨bw, hb, hr, hn⟩) hk) (by omega) (by omega))).mono ?_
              rintro v W2 ⟨rfl, rfl⟩
              exact ⟨Keep.refl _ _, rfl⟩
            · refine ⟨[], rfl, ?_⟩; rintro W1 hk vs hd
              replace hB := hB.trans hk.weak
              refine ⟨true, fun a _ => rfl, fun _ => (aa [(3, _)] ⟨rfl, trivial⟩ ?_), fun h => by cases h⟩
              refine (Gives.does (bC rfl)).mono ?_
              rintro v W2 ⟨rfl, rfl⟩
              exact ⟨Keep.refl _ _, rfl⟩
            · refine ⟨[3], rfl, ?_⟩; rintro W1 hk vs hd
              have d3 : (vs 3) = .int .i64 4 := hd 3 (by decide)
              replace hB := hB.trans hk.weak
              refine ⟨true, fun a _ => rfl, fun _ => (aa [(42, .int .i64 4)] ⟨congrArg some d3, trivial⟩ ?_), fun h => by cases h⟩
              refine (Gives.does (bI (j := 32) (ck rfl rfl) (by decide))).mono ?_
              rintro v W2 ⟨rfl, rfl⟩
              exact ⟨Keep.refl _ _, rfl⟩
            · refine ⟨[4], rfl, ?_⟩; rintro W1 hk vs hd
              have d4 : (vs 4) = .int .i64 32 := hd 4 (by decide)
              replace hB := hB.trans hk.weak
              refine ⟨true, fun a _ => rfl, fun _ => (aa [(43, .int .i64 32)] ⟨congrArg some d4, trivial⟩ ?_), fun h => by cases h⟩
              refine (Gives.does (bI (j := 30) (cD rfl rfl) (by decide))).mono ?_
              rintro v W2 ⟨rfl, rfl⟩
              exact ⟨Keep.refl _ _, rfl⟩
            · refine ⟨[5], rfl, ?_⟩; rintro W1 hk vs hd
              have d5 : (vs 5) = .int .i64 30 := hd 5 (by decide)
              replace hB := hB.trans hk.weak
              refine ⟨true, fun a _ => rfl, fun _ => (aa [(44, .int .i64 30)] ⟨congrArg some d5, trivial⟩ ?_), fun h => by cases h⟩
              refine (Gives.does (bI (j := 1073741824) (cq rfl rfl (by decide)) (by decide))).mono ?_
              rintro v W2 ⟨rfl, rfl⟩
              exact ⟨Keep.refl _ _, rfl⟩
            · refine ⟨[6], rfl, ?_⟩; rintro W1 hk vs hd
              have d6 : (vs 6) = .int .i64 1073741824 := hd 6 (by decide)
              replace hB := hB.trans hk.weak
              refine ⟨true, fun a _ => rfl, fun _ => (aa [(45, .int .i64 1073741824)] ⟨congrArg some d6, trivial⟩ ?_), fun h => by cases h⟩
              refine (Gives.does (bI (j := 1073741823) (cD rfl rfl) (by decide))).mono ?_
              rintro v W2 ⟨rfl, rfl⟩
              exact ⟨Keep.refl _ _, rfl⟩
            · refine ⟨[2, 7], rfl, ?_⟩; rintro W1 hk vs hd
              have d2 : (vs 2) = .int .i64 (num (rest.take 4)) := hd 2 (by decide)
              have d7 : (vs 7) = .int .i64 1073741823 := hd 7 (by decide)
              replace hB := hB.trans hk.weak
              refine ⟨true, fun a _ => rfl, fun _ => (aa [(41, .int .i64 (num (rest.take 4))), (46, .int .i64 1073741823)] ⟨congrArg some d2, congrArg some d7, trivial⟩ ?_), fun h => by cases h⟩
              refine (Gives.does (iU rfl rfl)).mono ?_
              rintro v W2 ⟨rfl, rfl⟩
              exact ⟨Keep.refl _ _, rfl⟩
            · refine ⟨[8], rfl, ?_⟩; rintro W1 hk vs hd
              have d8 : (vs 8) = .int .i64 (bits .and .i64 (num (rest.take 4)) 1073741823) := hd 8 (by decide)
              replace hB := hB.trans hk.weak
              refine ⟨true, fun a _ => rfl, fun _ => (aa [(47, .int .i64 (bits .and .i64 (num (rest.take 4)) 1073741823))] ⟨congrArg some d8, trivial⟩ ?_), fun h => by cases h⟩
              refine (Gives.does (kV rfl)).mono ?_
              rintro v W2 ⟨rfl, rfl⟩
              exact ⟨Keep.refl _ _, rfl⟩
          rintro w10 k10 vs hv
          have z_k10 := k10.size
          replace hB := hB.trans k10.weak
          have e2 : (vs 9) = .int .i64 (bits .and .i64 (num (rest.take 4)) 1073741823) := hv 9 (by decide) rfl
          refine af [(2, .int .i64 (bits .and .i64 (num (rest.take 4)) 1073741823)), (0, _), (3, _), (5, _), (6, _), (7, _), (4, _), (8, _), (9, _), (10, _), (11, _), (12, _), (13, _), (14, _), (15, _), (16, _), (17, _), (18, _), (19, _), (20, _), (21, _), (22, _), (23, _), (24, _), (25, _), (29, _), (30, _), (31, _), (32, _), (33, _), (34, _), (35, _)] ⟨congrArg some e2, rfl, rfl, rfl, rfl, rfl, rfl, rfl, rfl, rfl, rfl, rfl, rfl, rfl, rfl, rfl, rfl, rfl, rfl, rfl, rfl, rfl, rfl, rfl, rfl, rfl, rfl, rfl, rfl, rfl, rfl, rfl, trivial⟩ ?_
          replace hb := hb.oC k10; replace hr := hr.oC k10
          have hmask : bits .and .i64 (num (rest.take 4)) 1073741823 = num (rest.take 4) % 1073741824 := by exact dq 30 (by decide) (hnb 4 (by decide)).1 (hnb 4 (by decide)).2
          rw [hmask]
          refine a5 (a5 (aZ (ogm rfl rfl (a7 (dK rfl rfl) rfl (ogm rfl rfl (aq 50 true rfl (fun c3 hgc3 => a9 [(2, _)] (ad rfl rfl rfl hgc3) ⟨bB rfl, trivial⟩ (fun hw13 => bC rfl) rfl (a9 [(3, _)] (ad rfl rfl rfl hgc3) ⟨bB rfl, trivial⟩ (fun hw14 => bC rfl) rfl ?_))))))))
          refine a9 [(52, _)] (ad rfl rfl rfl hgc3) ⟨ag rfl, trivial⟩ (fun hw15 => bI (j := 16) (ck rfl rfl) (by decide)) rfl (a9 [(53, _)] (ad rfl rfl rfl hgc3) ⟨ag rfl, trivial⟩ (fun hw16 => bI (j := 14) (cD rfl rfl) (by decide)) rfl (a9 [(51, _), (54, _)] (ad rfl rfl rfl hgc3) ⟨ag rfl, ag rfl, trivial⟩ (fun hw17 => eo (m := 16384) rfl rfl (by decide) (by decide)) rfl (a9 [(55, _)] (ad rfl rfl rfl hgc3) ⟨ag rfl, trivial⟩ (fun hw18 => bE rfl rfl) rfl (a7 (bM rfl rfl hgc3) rfl (a6 (bD rfl (fun hc8 => ?_) (fun hc8 => ?_)))))))
          · -- yes
            have hd5 := hc8
            try (simp only [Bool.and_eq_true, Bool.or_eq_true, decide_eq_true_eq, Bool.and_eq_false_iff, Bool.or_eq_false_iff, decide_eq_false_iff_not, Bool.not_eq_true', Bool.not_eq_false', Bool.not_eq_true, Bool.not_eq_false, ne_eq, Decidable.not_not, decide_true, decide_false, Bool.true_and, Bool.false_and, Bool.or_false, Bool.false_or, not_true_eq_false, false_or, or_false, true_and, and_true, not_false_eq_true, reduceCtorEq] at hd5)
            refine a5 (aZ (ogm rfl rfl (oga rfl rfl (a7 (ao rfl) rfl (a7 (ak aD rfl cX (by decide) rfl) rfl (an (bV cX rfl rfl rfl hb rfl) ?_))))))
            rintro _ w11 ⟨hq8, k11, z8⟩
            have hR : Rdr w11 p rest 21 := Rdr.setE hq8 hr hn k11
            replace hB := hB.trans k11
            refine a6 (ct rfl (a5 (aj (a5 (aZ (ogm rfl rfl (oga rfl rfl (a6 ?_))))))))
            refine al hfin Try.results82 rfl ?_
            refine ⟨(0, rest, 21), ?_, rfl, hR, hB⟩
            unfold rLen
            try rw [htop]
            try simp only [Nat.reducePow, Nat.reduceMul, Nat.reduceSub, Int.reducePow]
            repeat (first | rw [if_pos (by assumption)] | rw [if_neg (by assumption)] | rw [if_pos (by omega)] | rw [if_neg (by omega)])
            all_goals first | rfl | (refine Prod.ext rfl (Prod.ext rfl ?_); show _ = _; dsimp only; omega)
          · -- no
            have hd6 := hc8
            try (simp only [Bool.and_eq_true, Bool.or_eq_true, decide_eq_true_eq, Bool.and_eq_false_iff, Bool.or_eq_false_iff, decide_eq_false_iff_not, Bool.not_eq_true', Bool.not_eq_false', Bool.not_eq_true, Bool.not_eq_false, ne_eq, Decidable.not_not, decide_true, decide_false, Bool.true_and, Bool.false_and, Bool.or_false, Bool.false_or, not_true_eq_false, false_or, or_false, true_and, and_true, not_false_eq_true, reduceCtorEq] at hd6)
            refine aj (a5 (aZ (ogm rfl rfl (ogm rfl rfl (a7 (ao rfl) rfl (a7 (ak aD rfl am (by decide) rfl) rfl (a7 (ae aw rfl (by assumption) rfl) rfl (ogm rfl rfl ?_))))))))
            refine a7 (go aA cT rfl (by first | assumption | exact Own.rd (by assumption) | exact Rd.oC (by assumption) hB | exact Own.rd (Own.oC (by assumption) hB)) (.inr ⟨_, _, rfl, rfl⟩) (.inl ⟨rfl, rfl⟩) ⟨by omega, by omega, by omega⟩) rfl (a7 (ao rfl) rfl (a7 (ak aD rfl am (by decide) rfl) rfl (an (bV am rfl rfl hr.cutOne hb rfl) ?_)))
            rintro _ w12 ⟨hq9, k12, z9⟩
            have hR : Rdr w12 p (rest.drop (4 : Int).toNat) e := Rdr.setB hq9 hr hn k12 (by omega) (by omega)
            replace hB := hB.trans k12
            refine a6 (a5 (fF (a5 (aZ (ogm rfl rfl (oga rfl rfl (a6 (al hfin Try.results82 rfl ?_))))))))
            refine ⟨(num (rest.take 4) % 1073741824, rest.drop (4 : Int).toNat, e), ?_, rfl, hR, hB⟩
            unfold rLen
            try rw [htop]
            try simp only [Nat.reducePow, Nat.reduceMul, Nat.reduceSub, Int.reducePow]
            repeat (first | rw [if_pos (by assumption)] | rw [if_neg (by assumption)] | rw [if_pos (by omega)] | rw [if_neg (by omega)])
            all_goals first | rfl | (refine Prod.ext rfl (Prod.ext rfl ?_); show _ = _; dsimp only; omega)
      · have htop : top rest = 3 := by omega
        rw [hq]
        refine aZ (ogm rfl rfl (a7 (bI (j := 8) (cq rfl rfl (by decide)) (by decide)) rfl (oga rfl rfl (a6 (a5 (a5 (aZ (ogm rfl rfl ?_))))))))
        refine a7 (bE rfl rfl) rfl (a6 (fb rfl (by decide) (a5 (aZ (ogm rfl rfl (a7 (ao rfl) rfl (a7 (ak aD rfl cX (by decide) rfl) rfl (an (bV cX rfl rfl rfl hb rfl) ?_))))))))
        rintro _ w13 ⟨hq10, k13, z10⟩
        have hR : Rdr w13 p rest 21 := Rdr.setE hq10 hr hn k13
        replace hB := hB.trans k13
        refine a6 (ct rfl (a5 (aj (a5 (aZ (ogm rfl rfl (oga rfl rfl (a6 ?_))))))))
        refine al hfin Try.results82 rfl ?_
        refine ⟨(0, rest, 21), ?_, rfl, hR, hB⟩
        unfold rLen
        try rw [htop]
        try simp only [Nat.reducePow, Nat.reduceMul, Nat.reduceSub, Int.reducePow]
        repeat (first | rw [if_pos (by assumption)] | rw [if_neg (by assumption)] | rw [if_pos (by omega)] | rw [if_neg (by omega)])
        all_goals first | rfl | (refine Prod.ext rfl (Prod.ext rfl ?_); show _ = _; dsimp only; omega)
    · -- no
      refine aj (a5 (a5 (aZ (ogm rfl rfl (a7 (bE rfl rfl) rfl (a6 (dg rfl (by decide) (aj ?_))))))))
      refine a5 (a5 (aZ (ogm rfl rfl (a7 (ao rfl) rfl (a7 (ak aD rfl am (by decide) rfl) rfl (a7 (ae aw rfl (by assumption) rfl) rfl (a7 (ay aA rfl (by first | assumption | exact Own.rd (by assumption) | exact Rd.oC (by assumption) hB | exact Own.rd (Own.oC (by assumption) hB))) rfl (ogm rfl rfl ?_))))))))
      refine a7 (cN rfl rfl) rfl (a6 (bF rfl (fun hc9 => ?_) (fun hc9 => ?_)))
      · -- yes
        refine a5 (aZ (ogm rfl rfl (a7 (ao rfl) rfl (a7 (ak aD rfl cX (by decide) rfl) rfl (an (bV cX rfl rfl rfl hb rfl) ?_)))))
        rintro _ w14 ⟨hq11, k14, z11⟩
        have hR : Rdr w14 p rest 20 := Rdr.setE hq11 hr hn k14
        replace hB := hB.trans k14
        refine a6 (ct rfl (a5 (aj (a5 (aZ (ogm rfl rfl (oga rfl rfl (a6 ?_))))))))
        refine al hfin Try.results82 rfl ?_
        have htop := htop0 (by omega)
        refine ⟨(0, rest, 20), ?_, rfl, hR, hB⟩
        unfold rLen
        try rw [htop]
        try simp only [Nat.reducePow, Nat.reduceMul, Nat.reduceSub, Int.reducePow]
        repeat (first | rw [if_pos (by assumption)] | rw [if_neg (by assumption)] | rw [if_pos (by omega)] | rw [if_neg (by omega)])
        all_goals first | rfl | (refine Prod.ext rfl (Prod.ext rfl ?_); show _ = _; dsimp only; omega)
      · -- no
        refine aj (a5 (fG mixed [(0, _), (3, _), (5, _), (6, _), (7, _), (4, _), (8, _), (9, _), (10, _), (11, _), (12, _), (13, _), (24, _), (25, _), (29, _), (30, _), (31, _), (32, _), (33, _), (34, _), (35, _)] (fun jj v W => match jj with | 0 => v = .pointer (some ⟨p, 0, none⟩) | 1 => v = .int .i64 1 | 2 => v = .int .i64 (num (rest.take 1)) | 3 => v = .int .i64 1 | 4 => v = .int .i64 8 | 5 => v = .int .i64 6 | 6 => v = .int .i64 64 | 7 => v = .int .i64 63 | 8 => v = .int .i64 (bits .and .i64 (num (rest.take 1)) 63) | 9 => v = .int .i64 (bits .and .i64 (num (rest.take 1)) 63) | _ => True) ⟨rfl, rfl, rfl, rfl, rfl, rfl, rfl, rfl, rfl, rfl, rfl, rfl, rfl, rfl, rfl, rfl, rfl, rfl, rfl, rfl, rfl, trivial⟩ (by decide) rfl ?_ ?_ ?_))
        · intro jj v W W' h k
          match jj, h with
          | 0, h => exact h
          | 1, h => exact h
          | 2, h => exact h
          | 3, h => exact h
          | 4, h => exact h
          | 5, h => exact h
          | 6, h => exact h
          | 7, h => exact h
          | 8, h => exact h
          | 9, h => exact h
          | _ + 10, _ => trivial
        · refine ⟨?_, ?_, ?_, ?_, ?_, ?_, ?_, ?_, ?_, ?_, trivial⟩
          · refine ⟨[], rfl, ?_⟩; rintro W1 hk vs hd
            replace hB := hB.trans hk.weak
            refine ⟨true, fun a _ => rfl, fun _ => (aa [(0, _)] ⟨rfl, trivial⟩ ?_), fun h => by cases h⟩
            refine (Gives.does (bC rfl)).mono ?_
            rintro v W2 ⟨rfl, rfl⟩
            exact ⟨Keep.refl _ _, rfl⟩
          · refine ⟨[], rfl, ?_⟩; rintro W1 hk vs hd
            replace hB := hB.trans hk.weak
            refine ⟨true, fun a _ => rfl, fun _ => (aa [(3, _)] ⟨rfl, trivial⟩ ?_), fun h => by cases h⟩
            refine (Gives.does (bC rfl)).mono ?_
            rintro v W2 ⟨rfl, rfl⟩
            exact ⟨Keep.refl _ _, rfl⟩
          · refine ⟨[0, 1], rfl, ?_⟩; rintro W1 hk vs hd
            have d0 : (vs 0) = .pointer (some ⟨p, 0, none⟩) := hd 0 (by decide)
            have d1 : (vs 1) = .int .i64 1 := hd 1 (by decide)
            replace hB := hB.trans hk.weak
            refine ⟨true, fun a _ => rfl, fun _ => (aa [(39, .pointer (some ⟨p, 0, none⟩)), (40, .int .i64 1)] ⟨congrArg some d0, congrArg some d1, trivial⟩ ?_), fun h => by cases h⟩
            refine (ab (vs := [_, _]) rfl (gG _ rest e _ W1 (Rdr.oC (by exact ⟨bw, hb, hr, hn⟩) hk) (by omega) (by omega))).mono ?_
            rintro v W2 ⟨rfl, rfl⟩
            exact ⟨Keep.refl _ _, rfl⟩
          · refine ⟨[], rfl, ?_⟩; rintro W1 hk vs hd
            replace hB := hB.trans hk.weak
            refine ⟨true, fun a _ => rfl, fun _ => (aa [(3, _)] ⟨rfl, trivial⟩ ?_), fun h => by cases h⟩
            refine (Gives.does (bC rfl)).mono ?_
            rintro v W2 ⟨rfl, rfl⟩
            exact ⟨Keep.refl _ _, rfl⟩
          · refine ⟨[3], rfl, ?_⟩; rintro W1 hk vs hd
            have d3 : (vs 3) = .int .i64 1 := hd 3 (by decide)
            replace hB := hB.trans hk.weak
            refine ⟨true, fun a _ => rfl, fun _ => (aa [(42, .int .i64 1)] ⟨congrArg some d3, trivial⟩ ?_), fun h => by cases h⟩
            refine (Gives.does (bI (j := 8) (ck rfl rfl) (by decide))).mono ?_
            rintro v W2 ⟨rfl, rfl⟩
            exact ⟨Keep.refl _ _, rfl⟩
          · refine ⟨[4], rfl, ?_⟩; rintro W1 hk vs hd
            have d4 : (vs 4) = .int .i64 8 := hd 4 (by decide)
            replace hB := hB.trans hk.weak
            refine ⟨true, fun a _ => rfl, fun _ => (aa [(43, .int .i64 8)] ⟨congrArg some d4, trivial⟩ ?_), fun h => by cases h⟩
            refine (Gives.does (bI (j := 6) (cD rfl rfl) (by decide))).mono ?_
            rintro v W2 ⟨rfl, rfl⟩
            exact ⟨Keep.refl _ _, rfl⟩
          · refine ⟨[5], rfl, ?_⟩; rintro W1 hk vs hd
            have d5 : (vs 5) = .int .i64 6 := hd 5 (by decide)
            replace hB := hB.trans hk.weak
            refine ⟨true, fun a _ => rfl, fun _ => (aa [(44, .int .i64 6)] ⟨congrArg some d5, trivial⟩ ?_), fun h => by cases h⟩
            refine (Gives.does (bI (j := 64) (cq rfl rfl (by decide)) (by decide))).mono ?_
            rintro v W2 ⟨rfl, rfl⟩
            exact ⟨Keep.refl _ _, rfl⟩
          · refine ⟨[6], rfl, ?_⟩; rintro W1 hk vs hd
            have d6 : (vs 6) = .int .i64 64 := hd 6 (by decide)
            replace hB := hB.trans hk.weak
            refine ⟨true, fun a _ => rfl, fun _ => (aa [(45, .int .i64 64)] ⟨congrArg some d6, trivial⟩ ?_), fun h => by cases h⟩
            refine (Gives.does (bI (j := 63) (cD rfl rfl) (by decide))).mono ?_
            rintro v W2 ⟨rfl, rfl⟩
            exact ⟨Keep.refl _ _, rfl⟩
          · refine ⟨[2, 7], rfl, ?_⟩; rintro W1 hk vs hd
            have d2 : (vs 2) = .int .i64 (num (rest.take 1)) := hd 2 (by decide)
            have d7 : (vs 7) = .int .i64 63 := hd 7 (by decide)
            replace hB := hB.trans hk.weak
            refine ⟨true, fun a _ => rfl, fun _ => (aa [(41, .int .i64 (num (rest.take 1))), (46, .int .i64 63)] ⟨congrArg some d2, congrArg some d7, trivial⟩ ?_), fun h => by cases h⟩
            refine (Gives.does (iU rfl rfl)).mono ?_
            rintro v W2 ⟨rfl, rfl⟩
            exact ⟨Keep.refl _ _, rfl⟩
          · refine ⟨[8], rfl, ?_⟩; rintro W1 hk vs hd
            have d8 : (vs 8) = .int .i64 (bits .and .i64 (num (rest.take 1)) 63) := hd 8 (by decide)
            replace hB := hB.trans hk.weak
            refine ⟨true, fun a _ => rfl, fun _ => (aa [(47, .int .i64 (bits .and .i64 (num (rest.take 1)) 63))] ⟨congrArg some d8, trivial⟩ ?_), fun h => by cases h⟩
            refine (Gives.does (kV rfl)).mono ?_
            rintro v W2 ⟨rfl, rfl⟩
            exact ⟨Keep.refl _ _, rfl⟩
        rintro w15 k15 vs hv
        have z_k15 := k15.size
        replace hB := hB.trans k15.weak
        have e2 : (vs 9) = .int .i64 (bits .and .i64 (num (rest.take 1)) 63) := hv 9 (by decide) rfl
        refine af [(2, .int .i64 (bits .and .i64 (num (rest.take 1)) 63)), (0, _), (3, _), (5, _), (6, _), (7, _), (4, _), (8, _), (9, _), (10, _), (11, _), (12, _), (13, _), (24, _), (25, _), (29, _), (30, _), (31, _), (32, _), (33, _), (34, _), (35, _)] ⟨congrArg some e2, rfl, rfl, rfl, rfl, rfl, rfl, rfl, rfl, rfl, rfl, rfl, rfl, rfl, rfl, rfl, rfl, rfl, rfl, rfl, rfl, rfl, trivial⟩ ?_
        replace hb := hb.oC k15; replace hr := hr.oC k15
        have hmask : bits .and .i64 (num (rest.take 1)) 63 = num (rest.take 1) % 64 := by exact dq 6 (by decide) (hnb 1 (by decide)).1 (hnb 1 (by decide)).2
        rw [hmask]
        refine a5 (a5 (aZ (ogm rfl rfl (a7 (dK rfl rfl) rfl (ogm rfl rfl (aq 50 true rfl (fun c4 hgc4 => a9 [(2, _)] (ad rfl rfl rfl hgc4) ⟨bB rfl, trivial⟩ (fun hw19 => bC rfl) rfl (a9 [(3, _)] (ad rfl rfl rfl hgc4) ⟨bB rfl, trivial⟩ (fun hw20 => bC rfl) rfl ?_))))))))
        refine a9 [(52, _)] (ad rfl rfl rfl hgc4) ⟨ag rfl, trivial⟩ (fun hw21 => bI (j := 4) (ck rfl rfl) (by decide)) rfl (a9 [(53, _)] (ad rfl rfl rfl hgc4) ⟨ag rfl, trivial⟩ (fun hw22 => bI (j := 2) (cD rfl rfl) (by decide)) rfl (a9 [(51, _), (54, _)] (ad rfl rfl rfl hgc4) ⟨ag rfl, ag rfl, trivial⟩ (fun hw23 => eo (m := 4) rfl rfl (by decide) (by decide)) rfl (a9 [(55, _)] (ad rfl rfl rfl hgc4) ⟨ag rfl, trivial⟩ (fun hw24 => bE rfl rfl) rfl (a7 (bM rfl rfl hgc4) rfl (a6 (bD rfl (fun hc10 => ?_) (fun hc10 => ?_)))))))
        · -- yes
          have hd7 := hc10
          try (simp only [Bool.and_eq_true, Bool.or_eq_true, decide_eq_true_eq, Bool.and_eq_false_iff, Bool.or_eq_false_iff, decide_eq_false_iff_not, Bool.not_eq_true', Bool.not_eq_false', Bool.not_eq_true, Bool.not_eq_false, ne_eq, Decidable.not_not, decide_true, decide_false, Bool.true_and, Bool.false_and, Bool.or_false, Bool.false_or, not_true_eq_false, false_or, or_false, true_and, and_true, not_false_eq_true, reduceCtorEq] at hd7)
          refine a5 (aZ (ogm rfl rfl (oga rfl rfl (a7 (ao rfl) rfl (a7 (ak aD rfl cX (by decide) rfl) rfl (an (bV cX rfl rfl rfl hb rfl) ?_))))))
          rintro _ w16 ⟨hq12, k16, z12⟩
          have hR : Rdr w16 p rest 21 := Rdr.setE hq12 hr hn k16
          replace hB := hB.trans k16
          refine a6 (ct rfl (a5 (aj (a5 (aZ (ogm rfl rfl (oga rfl rfl (a6 ?_))))))))
          refine al hfin Try.results82 rfl ?_
          exfalso; omega
        · -- no
          have hd8 := hc10
          try (simp only [Bool.and_eq_true, Bool.or_eq_true, decide_eq_true_eq, Bool.and_eq_false_iff, Bool.or_eq_false_iff, decide_eq_false_iff_not, Bool.not_eq_true', Bool.not_eq_false', Bool.not_eq_true, Bool.not_eq_false, ne_eq, Decidable.not_not, decide_true, decide_false, Bool.true_and, Bool.false_and, Bool.or_false, Bool.false_or, not_true_eq_false, false_or, or_false, true_and, and_true, not_false_eq_true, reduceCtorEq] at hd8)
          refine aj (a5 (aZ (ogm rfl rfl (ogm rfl rfl (a7 (ao rfl) rfl (a7 (ak aD rfl am (by decide) rfl) rfl (a7 (ae aw rfl (by assumption) rfl) rfl (ogm rfl rfl ?_))))))))
          refine a7 (go aA cT rfl (by first | assumption | exact Own.rd (by assumption) | exact Rd.oC (by assumption) hB | exact Own.rd (Own.oC (by assumption) hB)) (.inr ⟨_, _, rfl, rfl⟩) (.inl ⟨rfl, rfl⟩) ⟨by omega, by omega, by omega⟩) rfl (a7 (ao rfl) rfl (a7 (ak aD rfl am (by decide) rfl) rfl (an (bV am rfl rfl hr.cutOne hb rfl) ?_)))
          rintro _ w17 ⟨hq13, k17, z13⟩
          have hR : Rdr w17 p (rest.drop (1 : Int).toNat) e := Rdr.setB hq13 hr hn k17 (by omega) (by omega)
          replace hB := hB.trans k17
          refine a6 (a5 (fF (a5 (aZ (ogm rfl rfl (oga rfl rfl (a6 (al hfin Try.results82 rfl ?_))))))))
          exfalso; omega
theorem dl (v : Value) (xs : List UInt8) (w : World) (hv : RdB w v xs) (hx : xs.length ≤ 140737488355328) : Rets Try.prog 36 [v] w (fun r w' => ∃ p, r = .pointer (some ⟨p, 0, none⟩) ∧ RdrL w' w.heap.size p xs 0 ∧ Keep [] w w') := by
 have hB : Keep [] w w := Keep.refl _ _
 refine ai Try.func36 rfl (by decide) Try.ntmps36 rfl (fun fin _ hfin => a5 (aZ (oga rfl rfl (a6 (a5 (aZ (ogm rfl rfl (ah (ab (vs := [_]) rfl (jO _ _ _ (by first | assumption | exact Own.rd ‹_› | exact Rd.oC ‹_› hB | exact Own.rd (Own.oC ‹_› hB)) (by first | assumption | (simp only [List.length_take, List.length_drop] at *; omega)))) rfl ?_))))))))
 rintro v1 w1 ⟨o1, k1, nn1⟩
 have z_k1 := k1.size
 replace hB := hB.trans k1
 have u_o1 := o1.blk
 refine a7 (cA (idx := [0, 2]) (xs := [.tmp 4, .const (.bool true)]) (vs := [_, _]) (css := [[_], [_]]) (out := [_, _, _]) pl131 ty131 rfl rfl ⟨Rd.cells (by first | assumption | exact Own.rd ‹_› | exact Rd.oC ‹_› hB | exact Own.rd (Own.oC ‹_› hB)), rfl, trivial⟩ rfl rfl) rfl (ah (bc (cs := [_, _, _]) rfl rfl) rfl ?_)
 rintro _ w2 ⟨b1, rfl, eb1, hb1, k2, z1⟩
 have z_k2 := k2.size
 replace o1 := o1.oC k2
 replace hB := hB.trans k2
 refine oga rfl rfl (a6 (al hfin Try.results36 rfl ?_))
 exact ⟨_, rfl, ⟨by have := k1.size; omega, _, hb1, o1.rd, fun x hx => by have := u_o1 x hx; omega⟩, hB⟩
theorem mb {a b : Nat} (h : a < b) : a < b := h
theorem jq (p : Nat) (rest : List UInt8) (e n : Int) (w : World) (h : Rdr w p rest e) (hx : rest.length ≤ 140737488355328) : Rets Try.prog 83 [.pointer (some ⟨p, 0, none⟩), .int .i64 n] w (fun v w' => ∃ r, r = rTake rest e n ∧ OwnB w' w.heap.size v r.1 ∧ Rdr w' p r.2.1 r.2.2 ∧ Keep [p] w w') := by
 obtain ⟨bw, hb, hr, hn⟩ := h
 have hB : Keep [p] w w := Keep.refl _ _
 have hgb0 : gb rest 0 = ((rest.getD 0 0).toNat : Int) := rfl
 have hcap := hr.vcap
 have hp0 : p < w.heap.size := hb.lt
 refine ai Try.func83 rfl (by decide) Try.ntmps83 rfl (fun fin _ hfin => a5 (aZ (oga rfl rfl (a6 (a5 (bA (a5 (aZ (ogm rfl rfl (ah (ab (vs := [_]) rfl (ew _ _ _ _ (by exact ⟨bw, hb, hr, hn⟩))) rfl ?_))))))))))
 rintro _ _ ⟨rfl, rfl⟩
 refine a7 (bn rfl rfl) rfl (oga rfl rfl (a6 (bF rfl (fun hc1 => ?_) (fun hc1 => ?_))))
 ·
  refine a5 (aZ (oga rfl rfl (a6 (al hfin Try.results83 rfl ?_))))
  refine ⟨([], rest, e), ?_, a8 _ _ _ _, ⟨bw, hb, hr, hn⟩, hB⟩
  unfold rTake
  repeat (first | rw [if_pos ‹_›] | rw [if_neg ‹_›] | rw [if_pos (by omega)] | rw [if_neg (by omega)])
  all_goals first | rfl | (refine Prod.ext rfl (Prod.ext rfl ?_); show _ = _; dsimp only; omega)
 ·
  refine a5 (aZ (ogm rfl rfl (a7 (cN rfl rfl) rfl (oga rfl rfl (a6 (bF rfl (fun hc2 => ?_) (fun hc2 => ?_)))))))
  ·
   refine a5 (aZ (ogm rfl rfl (a7 (ao rfl) rfl (a7 (ak aD rfl cX (by decide) rfl) rfl (an (bV cX rfl rfl rfl hb rfl) ?_)))))
   rintro _ w1 ⟨hq1, k1, z1⟩
   have hR : Rdr w1 p rest 1 := Rdr.setE hq1 hr hn k1
   replace hB := hB.trans k1
   refine a6 (a5 (aZ (oga rfl rfl (a6 (al hfin Try.results83 rfl ?_)))))
   refine ⟨([], rest, 1), ?_, a8 _ _ _ _, hR, hB⟩
   unfold rTake
   repeat (first | rw [if_pos ‹_›] | rw [if_neg ‹_›] | rw [if_pos (by omega)] | rw [if_neg (by omega)])
   all_goals first | rfl | (refine Prod.ext rfl (Prod.ext rfl ?_); show _ = _; dsimp only; omega)
  ·
   refine a5 (aZ (ogm rfl rfl (ogm rfl rfl (a7 (ao rfl) rfl (a7 (ak aD rfl am (by decide) rfl) rfl (a7 (ae aw rfl ‹_› rfl) rfl (a7 (ay aA rfl (by first | assumption | exact Own.rd ‹_› | exact Rd.oC ‹_› hB | exact Own.rd (Own.oC ‹_› hB))) rfl (a7 (dK rfl rfl) rfl (oga rfl rfl (a6 (bF rfl (fun hc3 => ?_) (fun hc3 => ?_))))))))))))
   ·
    refine a5 (aZ (ogm rfl rfl (a7 (ao rfl) rfl (a7 (ak aD rfl cX (by decide) rfl) rfl (an (bV cX rfl rfl rfl hb rfl) ?_)))))
    rintro _ w2 ⟨hq2, k2, z2⟩
    have hR : Rdr w2 p rest 20 := Rdr.setE hq2 hr hn k2
    replace hB := hB.trans k2
    refine a6 (a5 (aZ (oga rfl rfl (a6 (al hfin Try.results83 rfl ?_)))))
    refine ⟨([], rest, 20), ?_, a8 _ _ _ _, hR, hB⟩
    unfold rTake
    repeat (first | rw [if_pos ‹_›] | rw [if_neg ‹_›] | rw [if_pos (by omega)] | rw [if_neg (by omega)])
    all_goals first | rfl | (refine Prod.ext rfl (Prod.ext rfl ?_); show _ = _; dsimp only; omega)
   ·
    refine aj (cG (a5 (aZ (ogm rfl rfl (a7 (ao rfl) rfl (a7 (ak aD rfl am (by decide) rfl) rfl (a7 (ae aw rfl ‹_› rfl) rfl (ogm rfl rfl ?_))))))))
    have hct := hr.cutB (l := 0) (hi := n.toNat) (Nat.zero_le _) (by omega)
    replace hct : RdB w (cut bw 0 n.toNat 1) (rest.take n.toNat) := by simpa using hct
    refine a7 (go aA cT rfl hr (.inl ⟨rfl, rfl⟩) (.inr ⟨_, _, rfl, rfl⟩) ⟨by omega, by omega, by omega⟩) rfl (ah (ab (vs := [_]) rfl (jO _ (rest.take n.toNat) _ ‹_› (by simp only [List.length_take]; omega))) rfl ?_)
    rintro v1 w3 ⟨o1, k3, nn1⟩
    have z_k3 := k3.size
    replace hB := hB.trans k3.weak
    replace hb := hb.oC k3
    replace hr := hr.oC k3
    have hpl := hb.lt
    refine oga rfl rfl (a6 (a5 (aZ (ogm rfl rfl (ogm rfl rfl (a7 (ao rfl) rfl (a7 (ak aD rfl am (by decide) rfl) rfl (a7 (ae aw rfl ‹_› rfl) rfl (ogm rfl rfl (a7 (go aA cT rfl (by first | assumption | exact Own.rd ‹_› | exact Rd.oC ‹_› hB | exact Own.rd (Own.oC ‹_› hB)) (.inr ⟨_, _, rfl, rfl⟩) (.inl ⟨rfl, rfl⟩) ⟨by omega, by omega, by omega⟩) rfl (a7 (ao rfl) rfl (a7 (ak aD rfl am (by decide) rfl) rfl (an (bV am rfl rfl hr.cutOne hb rfl) ?_)))))))))))))
    rintro _ w4 ⟨hq3, k4, z3⟩
    have hR : Rdr w4 p (rest.drop n.toNat) e := Rdr.setB hq3 hr hn k4 (by omega) (by omega)
    replace hB := hB.trans k4
    replace o1 := o1.keepP k4 (mb hp0)
    refine a6 (a5 (aZ (ogm rfl rfl (oga rfl rfl (a6 (al hfin Try.results83 rfl ?_))))))
    refine ⟨(rest.take n.toNat, rest.drop n.toNat, e), ?_, o1.lo (by omega), hR, hB⟩
    unfold rTake
    repeat (first | rw [if_pos ‹_›] | rw [if_neg ‹_›] | rw [if_pos (by omega)] | rw [if_neg (by omega)])
    all_goals first | rfl | (refine Prod.ext rfl (Prod.ext rfl ?_); show _ = _; dsimp only; omega)
theorem bQ (p : Nat) (rest : List UInt8) (e : Int) (w : World) (h : Rdr w p rest e) (hx : rest.length ≤ 140737488355328) : Rets Try.prog 39 [.pointer (some ⟨p, 0, none⟩)] w (fun v w' => ∃ r, r = rVec rest e ∧ OwnB w' w.heap.size v r.1 ∧ Rdr w' p r.2.1 r.2.2 ∧ Keep [p] w w') := by
 have h' := h
 obtain ⟨bw0, hb0, hr0, hn0⟩ := h'
 have hB : Keep [p] w w := Keep.refl _ _
 refine ai Try.func39 rfl (by decide) Try.ntmps39 rfl (fun fin _ hfin => a5 (aZ (oga rfl rfl (a6 (a5 (a5 (aZ (ogm rfl rfl (ah (ab (vs := [_]) rfl (ew _ _ _ _ ‹_›)) rfl ?_)))))))))
 rintro _ _ ⟨rfl, rfl⟩
 refine a7 (bn rfl rfl) rfl (a6 (bF rfl (fun hc1 => ?_) (fun hc1 => ?_)))
 ·
  refine a5 (aZ (oga rfl rfl (a6 (al hfin Try.results39 rfl ?_))))
  refine ⟨([], rest, e), ?_, a8 _ _ _ _, h, hB⟩
  unfold rVec; rw [if_pos ‹_›]
 ·
  refine aj (a5 (aZ (ogm rfl rfl (a7 (ao rfl) rfl (a7 (ak aD rfl am (by decide) rfl) rfl ?_)))))
  obtain rfl : e = 0 := by omega
  refine a7 (ae aw rfl hb0 rfl) rfl (oga rfl rfl (a6 (a5 (aZ (ogm rfl rfl (ah (ab (vs := [_]) rfl (ju _ _ _ _ h)) rfl ?_))))))
  rintro _ w1 ⟨r1, hr1, rfl, R1, k1⟩
  replace hB := hB.trans k1
  obtain ⟨bw, hb, hr, hn⟩ := R1
  have hlen1 : r1.2.1.length ≤ rest.length := by rw [hr1]; exact kA rest 0
  refine oga rfl rfl (a6 (a5 (a5 (aZ (ogm rfl rfl (a7 (ao rfl) rfl (a7 (ak aD rfl cX (by decide) rfl) rfl (a7 (ae jt rfl ‹_› rfl) rfl (a7 (bE rfl rfl) rfl (ogm rfl rfl (aq 20 true rfl (fun c1 hgc1 => a9 [(4, _)] (ad rfl rfl rfl hgc1) ⟨bB rfl, trivial⟩ (fun hw1 => bC rfl) rfl (a9 [(21, _)] (ad rfl rfl rfl hgc1) ⟨ag rfl, trivial⟩ (fun hw2 => dK rfl rfl) rfl (a7 (bM rfl rfl hgc1) rfl (a6 (bD rfl (fun hc2 => ?_) (fun hc2 => ?_)))))))))))))))))
  ·
   have hd1 := hc2
   try (simp only [Bool.and_eq_true, Bool.or_eq_true, decide_eq_true_eq, Bool.and_eq_false_iff, Bool.or_eq_false_iff, decide_eq_false_iff_not, Bool.not_eq_true', Bool.not_eq_false', Bool.not_eq_true, Bool.not_eq_false, ne_eq, Decidable.not_not, decide_true, decide_false, Bool.true_and, Bool.false_and, Bool.or_false, Bool.false_or, not_true_eq_false, false_or, or_false, true_and, and_true, not_false_eq_true, reduceCtorEq] at hd1)
   refine aZ (ogm rfl rfl (a7 (ao rfl) rfl (a7 (ak aD rfl cX (by decide) rfl) rfl (an (bV cX rfl rfl rfl hb rfl) ?_))))
   rintro _ w2 ⟨hq1, k2, z1⟩
   replace hr := hr.keep k2 (fun x hx hm => Nat.ne_of_lt (hn x hx) (by simpa using hm)); replace hb := hq1; replace hB := hB.trans k2
   refine a6 (a5 (aZ (ogm rfl rfl (ogm rfl rfl ?_))))
   have hs1 := hB.size; have hp1 := hb.lt
   refine ah (ab (vs := [_, _]) rfl (jq _ r1.2.1 21 _ _ ⟨bw, hb, hr, hn⟩ (by omega))) rfl ?_
   rintro v1 w3 ⟨r2, hr2, o1, R2, k3⟩
   replace hB := hB.trans k3
   obtain ⟨bw2, hb2, hrr2, hn2⟩ := R2
   refine oga rfl rfl (a6 (a5 (a5 (aZ (ogm rfl rfl (a7 (ao rfl) rfl (a7 (ak aD rfl cX (by decide) rfl) rfl (a7 (ae jt rfl hb2 rfl) rfl (a7 (bn rfl rfl) rfl (a6 (bF rfl (fun hc3 => ?_) (fun hc3 => ?_))))))))))))
   ·
    refine aZ (ogm rfl rfl (ogm rfl rfl (a7 (ao rfl) rfl (a7 (ak aD rfl am (by decide) rfl) rfl (an (bV am rfl rfl hr0.one hb2 rfl) ?_)))))
    rintro _ w4 ⟨hq2, k4, z2⟩
    have hr0' := hr0.keep (hB.trans k4) (fun x hx hm => Nat.ne_of_lt (hn0 x hx) (by simpa using hm))
    replace o1 := o1.keepP k4 hp1; replace hB := hB.trans k4
    have hR : Rdr w4 p rest r2.2.2 := ⟨_, hq2, hr0', hn0⟩
    refine a6 (a5 (aZ (ogm rfl rfl (oga rfl rfl (a6 (al hfin Try.results39 rfl ?_))))))
    have h1 : r2.1 = [] := by rw [hr2]; exact jC _ _ _ (by rw [← hr2]; assumption)
    rw [h1] at o1
    exact ⟨([], rest, r2.2.2), jy hr1 hr2 (by first | assumption | omega) ‹_›, o1.lo hs1, hR, hB⟩
   ·
    refine aj (a5 (aZ (ogm rfl rfl (oga rfl rfl (a6 (al hfin Try.results39 rfl ?_))))))
    exact ⟨r2, jB hr1 hr2 (by first | assumption | omega) (by omega), o1.lo hs1, ⟨bw2, hb2, hrr2, hn2⟩, hB⟩
  ·
   have hd2 := hc2
   try (simp only [Bool.and_eq_true, Bool.or_eq_true, decide_eq_true_eq, Bool.and_eq_false_iff, Bool.or_eq_false_iff, decide_eq_false_iff_not, Bool.not_eq_true', Bool.not_eq_false', Bool.not_eq_true, Bool.not_eq_false, ne_eq, Decidable.not_not, decide_true, decide_false, Bool.true_and, Bool.false_and, Bool.or_false, Bool.false_or, not_true_eq_false, false_or, or_false, true_and, and_true, not_false_eq_true, reduceCtorEq] at hd2)
   refine aj (a5 (aZ (ogm rfl rfl (ogm rfl rfl ?_))))
   have hs1 := hB.size; have hp1 := hb.lt
   refine ah (ab (vs := [_, _]) rfl (jq _ r1.2.1 r1.2.2 _ _ ⟨bw, hb, hr, hn⟩ (by omega))) rfl ?_
   rintro v1 w5 ⟨r2, hr2, o1, R2, k5⟩
   replace hB := hB.trans k5
   obtain ⟨bw2, hb2, hrr2, hn2⟩ := R2
   refine oga rfl rfl (a6 (a5 (a5 (aZ (ogm rfl rfl (a7 (ao rfl) rfl (a7 (ak aD rfl cX (by decide) rfl) rfl (a7 (ae jt rfl hb2 rfl) rfl (a7 (bn rfl rfl) rfl (a6 (bF rfl (fun hc4 => ?_) (fun hc4 => ?_))))))))))))
   ·
    refine aZ (ogm rfl rfl (ogm rfl rfl (a7 (ao rfl) rfl (a7 (ak aD rfl am (by decide) rfl) rfl (an (bV am rfl rfl hr0.one hb2 rfl) ?_)))))
    rintro _ w6 ⟨hq3, k6, z3⟩
    have hr0' := hr0.keep (hB.trans k6) (fun x hx hm => Nat.ne_of_lt (hn0 x hx) (by simpa using hm))
    replace o1 := o1.keepP k6 hp1; replace hB := hB.trans k6
    have hR : Rdr w6 p rest r2.2.2 := ⟨_, hq3, hr0', hn0⟩
    refine a6 (a5 (aZ (ogm rfl rfl (oga rfl rfl (a6 (al hfin Try.results39 rfl ?_))))))
    have h1 : r2.1 = [] := by rw [hr2]; exact jC _ _ _ (by rw [← hr2]; assumption)
    rw [h1] at o1
    exact ⟨([], rest, r2.2.2), jz hr1 hr2 (by first | assumption | omega) ‹_›, o1.lo hs1, hR, hB⟩
   ·
    refine aj (a5 (aZ (ogm rfl rfl (oga rfl rfl (a6 (al hfin Try.results39 rfl ?_))))))
    exact ⟨r2, lc hr1 hr2 (by first | assumption | omega) (by omega), o1.lo hs1, ⟨bw2, hb2, hrr2, hn2⟩, hB⟩
theorem kE (p : Nat) (rest : List UInt8) (e : Int) (w : World) (h : Rdr w p rest e) : Rets Try.prog 55 [.pointer (some ⟨p, 0, none⟩)] w (fun v w' => v = .int .i64 (rest.length : Int) ∧ w = w') := by
 obtain ⟨bw, hb, hr, hn⟩ := h
 refine ai Try.func55 rfl (by decide) Try.ntmps55 rfl (fun fin _ hfin => a5 (aZ (oga rfl rfl (a6 (a5 (a5 (aZ (ogm rfl rfl (a7 (nl Try.underlying77 rfl) rfl (a6 (dS rfl (rfl) (aj (a5 (aZ (ogm rfl rfl (a7 (ao rfl) rfl (a7 (ak aD rfl am (by decide) rfl) rfl (a7 (ae aw rfl ‹_› rfl) rfl (a7 (ay aA rfl (by first | assumption | exact Own.rd ‹_› | exact Rd.oC ‹_› hB | exact Own.rd (Own.oC ‹_› hB))) rfl (oga rfl rfl (a6 (al hfin Try.results55 rfl ?_))))))))))))))))))))))
 exact ⟨rfl, rfl⟩
theorem lv (p : Nat) (rest : List UInt8) (e : Int) (w : World) (h : Rdr w p rest e) : Rets Try.prog 101 [.pointer (some ⟨p, 0, none⟩)] w (fun v w' => v = .int .i64 (rEnd rest e) ∧ w = w') := by
 obtain ⟨bw, hb, hr, hn⟩ := h
 refine ai Try.func101 rfl (by decide) Try.ntmps101 rfl (fun fin _ hfin => a5 (aZ (oga rfl rfl (a6 (a5 (a5 (aZ (ogm rfl rfl (ah (ab (vs := [_]) rfl (ew _ _ _ _ ⟨bw, hb, hr, hn⟩)) rfl ?_)))))))))
 rintro _ _ ⟨rfl, rfl⟩
 refine oga rfl rfl (a6 (a5 (aZ (ogm rfl rfl (a7 (bn rfl rfl) rfl (a6 (bF rfl (fun hc1 => ?_) (fun hc1 => ?_))))))))
 ·
  refine a5 (aZ (ogm rfl rfl (oga rfl rfl (a6 (al hfin Try.results101 rfl ?_)))))
  refine ⟨?_, rfl⟩
  congr 1
  unfold rEnd
  repeat (first | rw [if_pos ‹_›] | rw [if_neg ‹_›] | rw [if_pos (by omega)] | rw [if_neg (by omega)])
 ·
  refine aj (a5 (a5 (aZ (ogm rfl rfl (a7 (ao rfl) rfl (a7 (ak aD rfl am (by decide) rfl) rfl (a7 (ae aw rfl ‹_› rfl) rfl (a7 (ay aA rfl (by first | assumption | exact Own.rd ‹_› | exact Rd.oC ‹_› hB | exact Own.rd (Own.oC ‹_› hB))) rfl (a7 (dK rfl rfl) rfl (a6 (bF rfl (fun hc2 => ?_) (fun hc2 => ?_))))))))))))
  ·
   refine a5 (aZ (oga rfl rfl (a6 (al hfin Try.results101 rfl ?_))))
   refine ⟨?_, rfl⟩
   congr 1
   unfold rEnd
   repeat (first | rw [if_pos ‹_›] | rw [if_neg ‹_›] | rw [if_pos (by omega)] | rw [if_neg (by omega)])
  ·
   refine aj (a5 (aZ (oga rfl rfl (a6 (al hfin Try.results101 rfl ?_)))))
   refine ⟨?_, rfl⟩
   congr 1
   unfold rEnd
   repeat (first | rw [if_pos ‹_›] | rw [if_neg ‹_›] | rw [if_pos (by omega)] | rw [if_neg (by omega)])
theorem ef (n size : Int) (hs : 0 ≤ size ∧ size ≤ 8) (w : World) : Rets Try.prog 35 [.int .i64 n, .int .i64 size] w (fun v w' => OwnB w' w.heap.size v (be n size.toNat) ∧ Keep [] w w') := by
 have hB : Keep [] w w := Keep.refl _ _
 refine ai Try.func35 rfl (by decide) Try.ntmps35 rfl (fun fin _ hfin => a5 (aZ (oga rfl rfl (a6 (a5 (aZ (oga rfl rfl (a6 (a5 (a5 (aZ (ogm rfl rfl (a7 (jK rfl rfl (by omega)) rfl (oga rfl rfl (a6 (bA (cO (Γ := Int × Value) (fun ⟨i, o⟩ => [(0, .int .i64 n), (1, .int .i64 size), (5, o), (6, .int .i64 i)]) (fun ⟨i, o⟩ W => -1 ≤ i ∧ i < size ∧ OwnB W w.heap.size o ((be n size.toNat).take (size - 1 - i).toNat) ∧ Keep [] w W) (fun ⟨i, o⟩ => (i + 1).toNat) ⟨size - 1, .slice none 0 0⟩ ⟨rfl, rfl, rfl, rfl, trivial⟩ (⟨by omega, by omega, by rw [show (size - 1 - (size - 1)).toNat = 0 from by omega]; exact a8 _ _ _ _, hB⟩) ?_)))))))))))))))))
 rintro ⟨i, o⟩ w1 ⟨hi0, hi1, ow, hB⟩
 refine af [(0, .int .i64 n), (1, .int .i64 size), (5, o), (6, .int .i64 i)] ⟨rfl, rfl, rfl, rfl, trivial⟩ (a5 (a5 (aZ (ogm rfl rfl (a7 (gW rfl rfl) rfl (a6 (bF rfl (fun hc1 => ?_) (fun hc1 => ?_))))))))
 ·
  refine aj (a5 (bA (aZ (ogm rfl rfl (ogm rfl rfl (ogm rfl rfl (a7 (kU rfl rfl (by omega)) rfl (a7 (iT (by rw [aM]; rfl) aU rfl (by omega)) rfl (a7 (lq rfl rfl (by constructor <;> (try simp only [IntKind.bits]) <;> omega)) rfl (a7 (lW (by rw [aM]; rfl) aG rfl) rfl (ah (de (m := 1) (xs := [.tmp 19]) (vs := [_]) aA cT (by decide) rfl rfl rfl (by first | (simp; done) | (intro v hv; rw [List.mem_singleton] at hv; subst hv; rfl)) (by decide)) rfl ?_)))))))))))
  rintro v1 w2 ⟨o1, nn1, lb1, k1, z1⟩
  have z_k1 := k1.size
  replace ow := ow.oC k1
  replace hB := hB.trans k1
  have hby : IntKind.u8.wrap (n / 2 ^ (8 * i).toNat) = ((byteAt n i.toNat).toNat : Int) := by rw [bZ, IntKind.wrap_u8]; congr 3; omega
  replace o1 := kB o1 hby
  have hlt8 : ((be n size.toNat).take (size - 1 - i).toNat).length ≤ 8 := by rw [List.length_take, bi]; omega
  have hl1 : ([byteAt n i.toNat] : List UInt8).length = 1 := rfl
  have e0 : (be n size.toNat)[(size - 1 - i).toNat]? = some (byteAt n i.toNat) := by simp only [be, List.getElem?_map]; rw [List.getElem?_range (by omega)]; refine congrArg some ?_; show byteAt n _ = byteAt n _; congr 1; omega
  have e1 : (be n size.toNat).take (size - 1 - (i - 1)).toNat = (be n size.toNat).take (size - 1 - i).toNat ++ [byteAt n i.toNat] := by rw [show (size - 1 - (i - 1)).toNat = (size - 1 - i).toNat + 1 from by omega]; exact cQ e0
  refine ah (bW  aA cT rfl (by first | assumption | exact a8 _ _ _ _) rfl (by first | assumption | exact Own.rd ‹_› | exact Rd.oC ‹_› hB | exact Own.rd (Own.oC ‹_› hB)) (by first | omega | (simp only [cI, List.length_append, Int.toNat_natCast] at *; omega)) (by have := hB.size; omega)) rfl ?_
  rintro v2 w3 ⟨o2, k2, lb2, nn2⟩
  have z_k2 := k2.size
  replace hB := hB.new k2 (fun x hx => .inl (ow.blk x hx).1)
  refine oga rfl rfl (a6 (cG (aZ (ogm rfl rfl (a7 (jK rfl rfl (by omega)) rfl (oga rfl rfl (a6 (cP (Γ := Int × Value) ⟨i - 1, v2⟩ ⟨rfl, rfl, rfl, rfl, trivial⟩ (by (try dsimp only); omega) (⟨by omega, by omega, by rw [e1]; simpa [OwnB] using o2, hB⟩)))))))))
 ·
  refine bd rfl (a5 (aZ (ogm rfl rfl (oga rfl rfl (a6 (al hfin Try.results35 rfl ?_))))))
  obtain rfl : i = -1 := by omega
  rw [List.take_of_length_le (by rw [bi]; omega)] at ow
  exact ⟨ow, hB⟩
theorem nG (n : Int) (hn : 0 ≤ n ∧ n < 1073741824) (w : World) : Rets Try.prog 100 [.int .i64 n] w (fun v w' => ∃ u, v = .tuple #[u, .int .i64 0] ∧ OwnB w' w.heap.size u (vlen n.toNat) ∧ Keep [] w w') := by
  have hB : Keep [] w w := Keep.refl _ _
  refine ai Try.func100 rfl (by decide) Try.ntmps100 rfl (fun fin _ hfin => a5 (aZ (oga rfl rfl (oga rfl rfl (a6 (a5 (bA (a5 ?_))))))))
  refine aZ (ogm rfl rfl (a7 (cN rfl rfl) rfl (ogm rfl rfl (aq 7 false rfl (fun c1 hgc1 => a9 [(0, _)] (ad rfl rfl rfl hgc1) ⟨bB rfl, trivial⟩ (fun hw1 => bC rfl) rfl (a9 [(8, _)] (ad rfl rfl rfl hgc1) ⟨ag rfl, trivial⟩ (fun hw2 => gW rfl rfl) rfl (a7 (bP rfl rfl hgc1) rfl (oga rfl rfl ?_))))))))
  refine a6 (bD rfl (fun hc1 => ?_) (fun hc1 => ?_))
  · -- yes
    have hd1 := hc1
    try (simp only [Bool.and_eq_true, Bool.or_eq_true, decide_eq_true_eq, Bool.and_eq_false_iff, Bool.or_eq_false_iff, decide_eq_false_iff_not, Bool.not_eq_true', Bool.not_eq_false', Bool.not_eq_true, Bool.not_eq_false, ne_eq, Decidable.not_not, decide_true, decide_false, Bool.true_and, Bool.false_and, Bool.or_false, Bool.false_or, not_true_eq_false, false_or, or_false, true_and, and_true, not_false_eq_true, reduceCtorEq] at hd1)
    refine a5 (aZ (oga rfl rfl (oga rfl rfl (a6 (bO hfin Try.results100 rfl rfl ?_)))))
    first
    | (exfalso; omega)
    | (have hv : vlen n.toNat = be n 1 := by unfold vlen; rw [if_pos (by omega)]; congr 1; omega
       exact ⟨_, rfl, by rw [hv]; assumption, hB⟩)
    | (have hv : vlen n.toNat = be (n + 16384) 2 := by unfold vlen; rw [if_neg (by omega), if_pos (by omega)]; congr 1; omega
       exact ⟨_, rfl, by rw [hv]; assumption, hB⟩)
    | (have hv : vlen n.toNat = be (n + 2147483648) 4 := by unfold vlen; rw [if_neg (by omega), if_neg (by omega)]; congr 1; omega
       exact ⟨_, rfl, by rw [hv]; assumption, hB⟩)
  · -- no
    have hd2 := hc1
    try (simp only [Bool.and_eq_true, Bool.or_eq_true, decide_eq_true_eq, Bool.and_eq_false_iff, Bool.or_eq_false_iff, decide_eq_false_iff_not, Bool.not_eq_true', Bool.not_eq_false', Bool.not_eq_true, Bool.not_eq_false, ne_eq, Decidable.not_not, decide_true, decide_false, Bool.true_and, Bool.false_and, Bool.or_false, Bool.false_or, not_true_eq_false, false_or, or_false, true_and, and_true, not_false_eq_true, reduceCtorEq] at hd2)
    refine a5 (aZ (ogm rfl rfl (a7 (cN rfl rfl) rfl (oga rfl rfl (a6 (bF rfl (fun hc2 => ?_) (fun hc2 => ?_)))))))
    · -- yes
      refine a5 (aZ (ogm rfl rfl (ah (ab (vs := [_, _]) rfl (ef _ _ (by omega) _)) rfl ?_)))
      rintro v1 w1 ⟨o1, k1⟩
      have z_k1 := k1.size
      replace hB := hB.trans k1
      refine oga rfl rfl (oga rfl rfl (a6 (bO hfin Try.results100 rfl rfl ?_)))
      first
      | (exfalso; omega)
      | (have hv : vlen n.toNat = be n 1 := by unfold vlen; rw [if_pos (by omega)]; congr 1; omega
         exact ⟨_, rfl, by rw [hv]; assumption, hB⟩)
      | (have hv : vlen n.toNat = be (n + 16384) 2 := by unfold vlen; rw [if_neg (by omega), if_pos (by omega)]; congr 1; omega
         exact ⟨_, rfl, by rw [hv]; assumption, hB⟩)
      | (have hv : vlen n.toNat = be (n + 2147483648) 4 := by unfold vlen; rw [if_neg (by omega), if_neg (by omega)]; congr 1; omega
         exact ⟨_, rfl, by rw [hv]; assumption, hB⟩)
    · -- no
      refine a5 (aZ (ogm rfl rfl (a7 (cN rfl rfl) rfl (oga rfl rfl (a6 (bF rfl (fun hc3 => ?_) (fun hc3 => ?_)))))))
      · -- yes
        refine a5 (aZ (ogm rfl rfl (a7 (bN rfl rfl (by omega)) rfl (ah (ab (vs := [_, _]) rfl (ef _ _ (by omega) _)) rfl ?_))))
        rintro v2 w2 ⟨o2, k2⟩
        have z_k2 := k2.size
        replace hB := hB.trans k2
        refine oga rfl rfl (oga rfl rfl (a6 (bO hfin Try.results100 rfl rfl ?_)))
        first
        | (exfalso; omega)
        | (have hv : vlen n.toNat = be n 1 := by unfold vlen; rw [if_pos (by omega)]; congr 1; omega
           exact ⟨_, rfl, by rw [hv]; assumption, hB⟩)
        | (have hv : vlen n.toNat = be (n + 16384) 2 := by unfold vlen; rw [if_neg (by omega), if_pos (by omega)]; congr 1; omega
           exact ⟨_, rfl, by rw [hv]; assumption, hB⟩)
        | (have hv : vlen n.toNat = be (n + 2147483648) 4 := by unfold vlen; rw [if_neg (by omega), if_neg (by omega)]; congr 1; omega
           exact ⟨_, rfl, by rw [hv]; assumption, hB⟩)
      · -- no
        refine aj (cG (a5 (aZ (ogm rfl rfl (a7 (bN rfl rfl (by omega)) rfl (ah (ab (vs := [_, _]) rfl (ef _ _ (by omega) _)) rfl ?_))))))
        rintro v3 w3 ⟨o3, k3⟩
        have z_k3 := k3.size
        replace hB := hB.trans k3
        refine oga rfl rfl (oga rfl rfl (a6 (bO hfin Try.results100 rfl rfl ?_)))
        first
        | (exfalso; omega)
        | (have hv : vlen n.toNat = be n 1 := by unfold vlen; rw [if_pos (by omega)]; congr 1; omega
           exact ⟨_, rfl, by rw [hv]; assumption, hB⟩)
        | (have hv : vlen n.toNat = be (n + 16384) 2 := by unfold vlen; rw [if_neg (by omega), if_pos (by omega)]; congr 1; omega
           exact ⟨_, rfl, by rw [hv]; assumption, hB⟩)
        | (have hv : vlen n.toNat = be (n + 2147483648) 4 := by unfold vlen; rw [if_neg (by omega), if_neg (by omega)]; congr 1; omega
           exact ⟨_, rfl, by rw [hv]; assumption, hB⟩)
def jk (xs : List UInt8) : Int := if xs.length ≤ 65536 then 0 else 6
def dv (xs : List UInt8) : List UInt8 := if xs.length ≤ 65536 then vec xs else []
theorem nE (v : Value) (xs : List UInt8) (w : World) (hv : RdB w v xs) : Rets Try.prog 75 [v] w (fun r w' => ∃ u, r = .tuple #[u, .int .i64 (jk xs)] ∧ OwnB w' w.heap.size u (dv xs) ∧ Keep [] w w') := by
  have hB : Keep [] w w := Keep.refl _ _
  have hvl := av xs.length
  have hle := hv.le
  refine ai Try.func75 rfl (by decide) Try.ntmps75 rfl (fun fin _ hfin => a5 (aZ (oga rfl rfl (oga rfl rfl (a6 (a5 (a5 (aZ ?_))))))))
  refine ogm rfl rfl (a7 (ay aA rfl (by first | assumption | exact Own.rd (by assumption) | exact Rd.oC (by assumption) hB | exact Own.rd (Own.oC (by assumption) hB))) rfl (a7 (dK rfl rfl) rfl (a6 (bF rfl (fun hc1 => ?_) (fun hc1 => ?_)))))
  · -- yes
    refine a5 (aZ (oga rfl rfl (oga rfl rfl (a6 (bO hfin Try.results75 rfl rfl ?_)))))
    first
    | (refine ⟨_, by unfold jk; rw [if_neg (by omega)], ?_, hB⟩; unfold dv; rw [if_neg (by omega)]; exact a8 _ _ _ _)
    | (refine ⟨_, by unfold jk; rw [if_pos (by omega)], ?_, hB⟩; unfold dv; rw [if_pos (by omega)]; simpa [OwnB, vec] using o2)
  · -- no
    refine aj (a5 (aZ (ogm rfl rfl (a7 (ay aA rfl (by first | assumption | exact Own.rd (by assumption) | exact Rd.oC (by assumption) hB | exact Own.rd (Own.oC (by assumption) hB))) rfl (ah (ab (vs := [_]) rfl (nG _ (by constructor <;> omega) _)) rfl ?_)))))
    rintro _ w1 ⟨v1, rfl, o1, k1⟩
    have z_k1 := k1.size
    replace hB := hB.trans k1
    refine ogm rfl rfl (a7 (bH (vs := [_, _]) rfl rfl) rfl (a7 (bH (vs := [_, _]) rfl rfl) rfl (oga rfl rfl (oga rfl rfl (a6 (a5 (aZ (ogm rfl rfl ?_))))))))
    refine ogm rfl rfl (ah (bW  aA cT rfl (by first | assumption | exact a8 _ _ _ _) rfl (by first | assumption | exact Own.rd (by assumption) | exact Rd.oC (by assumption) hB | exact Own.rd (Own.oC (by assumption) hB)) (by first | omega | (simp only [cI, List.length_append, Int.toNat_natCast] at *; omega)) (by have := hB.size; omega)) rfl ?_)
    rintro v2 w2 ⟨o2, k2, lb1, nn1⟩
    have z_k2 := k2.size
    replace hB := hB.new k2 (fun x hx => .inl (o1.blk x hx).1)
    refine oga rfl rfl (oga rfl rfl (a6 (bO hfin Try.results75 rfl rfl ?_)))
    first
    | (refine ⟨_, by unfold jk; rw [if_neg (by omega)], ?_, hB⟩; unfold dv; rw [if_neg (by omega)]; exact a8 _ _ _ _)
    | (refine ⟨_, by unfold jk; rw [if_pos (by omega)], ?_, hB⟩; unfold dv; rw [if_pos (by omega)]; simpa [OwnB, vec] using o2)
def joinB (ls : List (List UInt8)) : List UInt8 := ls.flatMap dv
theorem iR (l : List (List UInt8)) (x : List UInt8) : joinB (l ++ [x]) = joinB l ++ dv x := by simp [joinB]
theorem ie (l : List (List UInt8)) (i : Nat) : (joinB (l.take i)).length ≤ (joinB l).length := by
 have : joinB l = joinB (l.take i) ++ joinB (l.drop i) := by unfold joinB; rw [← List.flatMap_append, List.take_append_drop]
 rw [this, List.length_append]; omega
theorem gl {l : List (List UInt8)} {i : Nat} {x : List UInt8} (h : l[i]? = some x) : (joinB (l.take i)).length + (dv x).length ≤ (joinB l).length := by
 have h1 := ie l (i + 1)
 rw [cQ h, iR] at h1
 simpa using h1
theorem cH (v : Value) (ls : List (List UInt8)) (lo : Nat) (w : World) (h : SlL w lo 22 v ls) (hsum : (joinB ls).length ≤ 140737488355328) : Rets Try.prog 32 [v] w (fun u w' => OwnB w' w.heap.size u (joinB ls) ∧ Keep [] w w') := by
 have hB : Keep [] w w := Keep.refl _ _
 obtain ⟨us, h1, hl, h3⟩ := h
 have hv := h3.rd
 have hle := hv.le
 refine ai Try.func32 rfl (by decide) Try.ntmps32 rfl (fun fin _ hfin => a5 (aZ (oga rfl rfl (a6 (a5 (aZ (oga rfl rfl (a6 (a5 (a5 (aZ (oga rfl rfl (a6 (bA (cO (Γ := Int × Value) (fun ⟨i, o⟩ => [(0, v), (3, o), (4, .int .i64 i)]) (fun ⟨i, o⟩ W => 0 ≤ i ∧ i ≤ ls.length ∧ OwnB W w.heap.size o (joinB (ls.take i.toNat)) ∧ Keep [] w W) (fun ⟨i, o⟩ => (ls.length - i).toNat) ⟨0, .slice none 0 0⟩ ⟨rfl, rfl, rfl, trivial⟩ (⟨by decide, by omega, a8 _ _ _ _, hB⟩) ?_)))))))))))))))
 rintro ⟨i, o⟩ w1 ⟨hi0, hi1, ow, hB⟩
 refine af [(0, v), (3, o), (4, .int .i64 i)] ⟨rfl, rfl, rfl, trivial⟩ (a5 (a5 (aZ (ogm rfl rfl (ogm rfl rfl (a7 (ay aJ rfl (by first | assumption | exact Own.rd ‹_› | exact Rd.oC ‹_› hB | exact Own.rd (Own.oC ‹_› hB))) rfl (a7 (cN rfl rfl) rfl (a6 (bF rfl (fun hc1 => ?_) (fun hc1 => ?_))))))))))
 ·
  refine aj (a5 (bA (a5 (aZ (ogm rfl rfl (ogm rfl rfl (a7 (eF aJ am rfl (by first | assumption | exact Own.rd ‹_› | exact Rd.oC ‹_› hB | exact Own.rd (Own.oC ‹_› hB)) rfl (by omega)) rfl ?_)))))))
  obtain ⟨u, x, hx, hu, ru⟩ := hl.get (i := i.toNat) (by omega)
  have e1 : ls.take (i + 1).toNat = ls.take i.toNat ++ [x] := by rw [show (i + 1).toNat = i.toNat + 1 from by omega]; exact cQ hx
  have hsz := gl hx
  refine a7 (jL aw rfl (by first | assumption | exact Own.rd ‹_› | exact Rd.oC ‹_› hB | exact Own.rd (Own.oC ‹_› hB)) (by rw [Nat.mul_one]; exact hu)) rfl (ah (ab (vs := [_]) rfl (nE _ _ _ (by first | assumption | exact Own.rd ‹_› | exact Rd.oC ‹_› hB | exact Own.rd (Own.oC ‹_› hB)))) rfl ?_)
  rintro _ w2 ⟨v1, rfl, o1, k1⟩
  have z_k1 := k1.size
  replace ow := ow.oC k1
  replace hB := hB.trans k1
  refine ogm rfl rfl (a7 (bH (vs := [_, _]) rfl rfl) rfl (a7 (bH (vs := [_, _]) rfl rfl) rfl (oga rfl rfl (oga rfl rfl (a6 (aZ (ogm rfl rfl (ogm rfl rfl (ah (bW  aA cT rfl (by first | assumption | exact a8 _ _ _ _) rfl (by first | assumption | exact Own.rd ‹_› | exact Rd.oC ‹_› hB | exact Own.rd (Own.oC ‹_› hB)) (by first | omega | (simp only [cI, List.length_append, Int.toNat_natCast] at *; omega)) (by have := hB.size; omega)) rfl ?_)))))))))
  rintro v2 w3 ⟨o2, k2, lb1, nn1⟩
  have z_k2 := k2.size
  replace hB := hB.new k2 (fun x hx => .inl (ow.blk x hx).1)
  refine oga rfl rfl (a6 (cG (aZ (ogm rfl rfl (a7 (bN rfl rfl (by omega)) rfl (oga rfl rfl (a6 (cP (Γ := Int × Value) ⟨i + 1, v2⟩ ⟨rfl, rfl, rfl, trivial⟩ (by (try dsimp only); omega) (⟨by omega, by omega, by rw [e1, iR]; simpa [OwnB] using o2, hB⟩)))))))))
 ·
  refine bd rfl (a5 (aZ (ogm rfl rfl (oga rfl rfl (a6 (al hfin Try.results32 rfl ?_))))))
  have hj : i.toNat = ls.length := by omega
  rw [hj, List.take_length] at ow
  exact ⟨ow, hB⟩
def RdR (w : World) (p : Nat) (rest : List UInt8) (e : Int) : Prop := ∃ (bs : List UInt8) (at_ : Nat) (bw : Value), Bk w p 107 [bw, .int .i64 (at_ : Int), .int .i64 e] ∧ RdB w bw bs ∧ (∀ x, x ∈ vblk bw → x < p) ∧ at_ ≤ bs.length ∧ rest = bs.drop at_ ∧ bs.length ≤ 140737488355328
def RdA (w : World) (p : Nat) (bs : List UInt8) (bw : Value) (at_ : Nat) (e : Int) : Prop := Bk w p 107 [bw, .int .i64 (at_ : Int), .int .i64 e] ∧ RdB w bw bs ∧ (∀ x, x ∈ vblk bw → x < p) ∧ at_ ≤ bs.length ∧ bs.length ≤ 140737488355328
theorem RdR.keep {S : List Nat} {w w' : World} {p : Nat} {rest : List UInt8} {e : Int} (h : RdR w p rest e) (k : Keep S w w') (hS : ∀ x, x ≤ p → x ∉ S) : RdR w' p rest e := by
 obtain ⟨bs, a, bw, hb, hr, hn, h1⟩ := h; exact ⟨bs, a, bw, hb.keep k (hS p (Nat.le_refl _)), hr.keep k (fun x hx => hS x (Nat.le_of_lt (hn x hx))), hn, h1⟩
def RdRL (w : World) (lo p : Nat) (rest : List UInt8) (e : Int) : Prop := lo ≤ p ∧ ∃ (bs : List UInt8) (at_ : Nat) (bw : Value), Bk w p 107 [bw, .int .i64 (at_ : Int), .int .i64 e] ∧ RdB w bw bs ∧ (∀ x, x ∈ vblk bw → lo ≤ x ∧ x < p) ∧ at_ ≤ bs.length ∧ rest = bs.drop at_ ∧ bs.length ≤ 140737488355328
theorem RdRL.rdr {w : World} {lo p : Nat} {rest : List UInt8} {e : Int} (h : RdRL w lo p rest e) : RdR w p rest e := by obtain ⟨_, bs, a, bw, hb, hr, hn, h1⟩ := h; exact ⟨bs, a, bw, hb, hr, fun x hx => (hn x hx).2, h1⟩
theorem RdRL.keep {S : List Nat} {w w' : World} {lo p : Nat} {rest : List UInt8} {e : Int} (h : RdRL w lo p rest e) (k : Keep S w w') (hS : ∀ x, lo ≤ x → x ∉ S) : RdRL w' lo p rest e := by
 obtain ⟨h0, bs, a, bw, hb, hr, hn, h1⟩ := h; exact ⟨h0, bs, a, bw, hb.keep k (hS p h0), hr.keep k (fun x hx => hS x (hn x hx).1), hn, h1⟩
theorem RdRL.oC {w w' : World} {lo p : Nat} {rest : List UInt8} {e : Int} (h : RdRL w lo p rest e) (k : Keep [] w w') : RdRL w' lo p rest e := h.keep k (fun _ _ h => by cases h)
theorem RdA.rdR {w : World} {p at_ : Nat} {bs : List UInt8} {bw : Value} {e : Int} (h : RdA w p bs bw at_ e) : RdR w p (bs.drop at_) e := ⟨bs, at_, bw, h.1, h.2.1, h.2.2.1, h.2.2.2.1, rfl, h.2.2.2.2⟩
theorem RdR.rdA {w : World} {p : Nat} {rest : List UInt8} {e : Int} (h : RdR w p rest e) : ∃ bs bw at_, rest = bs.drop at_ ∧ RdA w p bs bw at_ e := by obtain ⟨bs, a, bw, h1, h2, h3, h4, h5, h6⟩ := h; exact ⟨bs, bw, a, h5, h1, h2, h3, h4, h6⟩
theorem RdR.lt {w : World} {p : Nat} {rest : List UInt8} {e : Int} (h : RdR w p rest e) : p < w.heap.size := by obtain ⟨_, _, _, hb, _⟩ := h; exact hb.lt
theorem RdR.oC {w w' : World} {p : Nat} {rest : List UInt8} {e : Int} (h : RdR w p rest e) (k : Keep [] w w') : RdR w' p rest e := by
 obtain ⟨bs, a, bw, hb, hr, h1⟩ := h; exact ⟨bs, a, bw, hb.oC k, hr.oC k, h1⟩
theorem dB (p : Nat) (rest : List UInt8) (e : Int) (w : World) (h : RdR w p rest e) : Rets Try.prog 58 [.pointer (some ⟨p, 0, none⟩)] w (fun v w' => v = .int .i64 (rest.length : Int) ∧ Keep [] w w') := by
  obtain ⟨bs, at_, bw, hb, hr, hn, hal, rfl, hbl⟩ := h
  have hB : Keep [] w w := Keep.refl _ _
  have hcap := hr.vcap
  have hdl : (bs.drop at_).length = bs.length - at_ := List.length_drop
  refine ai Try.func58 rfl (by decide) Try.ntmps58 rfl (fun fin _ hfin => a5 (aZ (oga rfl rfl (a6 (a5 (fG mixed [(0, _)] (fun jj v W => match jj with | 0 => v = .pointer (some ⟨p, 0, none⟩) | 1 => v = .pointer (some ⟨p, 0, none⟩) | 2 => v = .pointer (some ⟨p, 0 + 0, none⟩) | 3 => v = bw | 4 => v = .int .i64 (bs.length : Int) | 5 => v = .pointer (some ⟨p, 0, none⟩) | 6 => v = .pointer (some ⟨p, 0, none⟩) | 7 => v = .pointer (some ⟨p, 0 + 1, none⟩) | 8 => v = .int .i64 (at_ : Int) | 9 => v = .int .i64 ((bs.length : Int) - (at_ : Int)) | 10 => v = .int .i64 ((bs.length : Int) - (at_ : Int)) | _ => True) ⟨rfl, trivial⟩ (by decide) rfl ?_ ?_ ?_))))))
  · intro jj v W W' h k
    match jj, h with
    | 0, h => exact h
    | 1, h => exact h
    | 2, h => exact h
    | 3, h => exact h
    | 4, h => exact h
    | 5, h => exact h
    | 6, h => exact h
    | 7, h => exact h
    | 8, h => exact h
    | 9, h => exact h
    | 10, h => exact h
    | _ + 11, _ => trivial
  · refine ⟨?_, ?_, ?_, ?_, ?_, ?_, ?_, ?_, ?_, ?_, ?_, trivial⟩
    · refine ⟨[], rfl, ?_⟩; rintro W1 hk vs hd
      obtain ⟨hB, hb⟩ := bX hk hB hb
      refine ⟨true, fun a _ => rfl, fun _ => (aa [(0, _)] ⟨rfl, trivial⟩ ?_), fun h => by cases h⟩
      refine (Gives.does (bC rfl)).mono ?_
      rintro v W2 ⟨rfl, rfl⟩
      exact ⟨Keep.refl _ _, rfl⟩
    · refine ⟨[0], rfl, ?_⟩; rintro W1 hk vs hd
      have d0 : (vs 0) = .pointer (some ⟨p, 0, none⟩) := hd 0 (by decide)
      obtain ⟨hB, hb⟩ := bX hk hB hb
      refine ⟨true, fun a _ => rfl, fun _ => (aa [(3, .pointer (some ⟨p, 0, none⟩))] ⟨congrArg some d0, trivial⟩ ?_), fun h => by cases h⟩
      refine (Gives.does (ao rfl)).mono ?_
      rintro v W2 ⟨rfl, rfl⟩
      exact ⟨Keep.refl _ _, rfl⟩
    · refine ⟨[1], rfl, ?_⟩; rintro W1 hk vs hd
      have d1 : (vs 1) = .pointer (some ⟨p, 0, none⟩) := hd 1 (by decide)
      obtain ⟨hB, hb⟩ := bX hk hB hb
      refine ⟨true, fun a _ => rfl, fun _ => (aa [(4, .pointer (some ⟨p, 0, none⟩))] ⟨congrArg some d1, trivial⟩ ?_), fun h => by cases h⟩
      refine (Gives.does (ak aF rfl am (by decide) rfl)).mono ?_
      rintro v W2 ⟨rfl, rfl⟩
      exact ⟨Keep.refl _ _, rfl⟩
    · refine ⟨[2], rfl, ?_⟩; rintro W1 hk vs hd
      have d2 : (vs 2) = .pointer (some ⟨p, 0 + 0, none⟩) := hd 2 (by decide)
      obtain ⟨hB, hb⟩ := bX hk hB hb
      refine ⟨true, fun a _ => rfl, fun _ => (aa [(5, .pointer (some ⟨p, 0 + 0, none⟩))] ⟨congrArg some d2, trivial⟩ ?_), fun h => by cases h⟩
      refine (Gives.does (ae aw rfl (by assumption) rfl)).mono ?_
      rintro v W2 ⟨rfl, rfl⟩
      exact ⟨Keep.refl _ _, rfl⟩
    · refine ⟨[3], rfl, ?_⟩; rintro W1 hk vs hd
      have d3 : (vs 3) = bw := hd 3 (by decide)
      obtain ⟨hB, hb⟩ := bX hk hB hb
      refine ⟨true, fun a _ => rfl, fun _ => (aa [(6, bw)] ⟨congrArg some d3, trivial⟩ ?_), fun h => by cases h⟩
      refine (Gives.does (ay aA rfl (by first | assumption | exact Own.rd (by assumption) | exact Rd.oC (by assumption) hB | exact Own.rd (Own.oC (by assumption) hB)))).mono ?_
      rintro v W2 ⟨rfl, rfl⟩
      exact ⟨Keep.refl _ _, rfl⟩
    · refine ⟨[], rfl, ?_⟩; rintro W1 hk vs hd
      obtain ⟨hB, hb⟩ := bX hk hB hb
      refine ⟨true, fun a _ => rfl, fun _ => (aa [(0, _)] ⟨rfl, trivial⟩ ?_), fun h => by cases h⟩
      refine (Gives.does (bC rfl)).mono ?_
      rintro v W2 ⟨rfl, rfl⟩
      exact ⟨Keep.refl _ _, rfl⟩
    · refine ⟨[5], rfl, ?_⟩; rintro W1 hk vs hd
      have d5 : (vs 5) = .pointer (some ⟨p, 0, none⟩) := hd 5 (by decide)
      obtain ⟨hB, hb⟩ := bX hk hB hb
      refine ⟨true, fun a _ => rfl, fun _ => (aa [(8, .pointer (some ⟨p, 0, none⟩))] ⟨congrArg some d5, trivial⟩ ?_), fun h => by cases h⟩
      refine (Gives.does (ao rfl)).mono ?_
      rintro v W2 ⟨rfl, rfl⟩
      exact ⟨Keep.refl _ _, rfl⟩
    · refine ⟨[6], rfl, ?_⟩; rintro W1 hk vs hd
      have d6 : (vs 6) = .pointer (some ⟨p, 0, none⟩) := hd 6 (by decide)
      obtain ⟨hB, hb⟩ := bX hk hB hb
      refine ⟨true, fun a _ => rfl, fun _ => (aa [(9, .pointer (some ⟨p, 0, none⟩))] ⟨congrArg some d6, trivial⟩ ?_), fun h => by cases h⟩
      refine (Gives.does (ak aF rfl bh (by decide) rfl)).mono ?_
      rintro v W2 ⟨rfl, rfl⟩
      exact ⟨Keep.refl _ _, rfl⟩
    · refine ⟨[7], rfl, ?_⟩; rintro W1 hk vs hd
      have d7 : (vs 7) = .pointer (some ⟨p, 0 + 1, none⟩) := hd 7 (by decide)
      obtain ⟨hB, hb⟩ := bX hk hB hb
      refine ⟨true, fun a _ => rfl, fun _ => (aa [(10, .pointer (some ⟨p, 0 + 1, none⟩))] ⟨congrArg some d7, trivial⟩ ?_), fun h => by cases h⟩
      refine (Gives.does (ae cY rfl (by assumption) rfl)).mono ?_
      rintro v W2 ⟨rfl, rfl⟩
      exact ⟨Keep.refl _ _, rfl⟩
    · refine ⟨[4, 8], rfl, ?_⟩; rintro W1 hk vs hd
      have d4 : (vs 4) = .int .i64 (bs.length : Int) := hd 4 (by decide)
      have d8 : (vs 8) = .int .i64 (at_ : Int) := hd 8 (by decide)
      replace hB := hB.trans hk
      refine ⟨true, fun a _ => rfl, fun _ => (aa [(7, .int .i64 (bs.length : Int)), (11, .int .i64 (at_ : Int))] ⟨congrArg some d4, congrArg some d8, trivial⟩ ?_), fun h => by cases h⟩
      refine (Gives.does (jK rfl rfl (by omega))).mono ?_
      rintro v W2 ⟨rfl, rfl⟩
      exact ⟨Keep.refl _ _, rfl⟩
    · refine ⟨[9], rfl, ?_⟩; rintro W1 hk vs hd
      have d9 : (vs 9) = .int .i64 ((bs.length : Int) - (at_ : Int)) := hd 9 (by decide)
      replace hB := hB.trans hk
      refine ⟨true, fun a _ => rfl, fun _ => (aa [(12, .int .i64 ((bs.length : Int) - (at_ : Int)))] ⟨congrArg some d9, trivial⟩ ?_), fun h => by cases h⟩
      refine (Gives.does (kV rfl)).mono ?_
      rintro v W2 ⟨rfl, rfl⟩
      exact ⟨Keep.refl _ _, rfl⟩
  rintro w1 k1 vs hv
  have z_k1 := k1.size
  replace hB := hB.trans k1
  have e2 : (vs 10) = .int .i64 ((bs.length : Int) - (at_ : Int)) := hv 10 (by decide) rfl
  refine af [(2, .int .i64 ((bs.length : Int) - (at_ : Int))), (0, _)] ⟨congrArg some e2, rfl, trivial⟩ (al hfin Try.results58 rfl ?_)
  exact ⟨by congr 1; omega, hB⟩
theorem fx (p : Nat) (rest : List UInt8) (e size : Int) (w : World) (h : RdR w p rest e) (hs : 0 ≤ size ∧ size ≤ rest.length) (h8 : size ≤ 7 ∨ (size = 8 ∧ (rest.getD 0 0).toNat < 64)) : Rets Try.prog 86 [.pointer (some ⟨p, 0, none⟩), .int .i64 size] w (fun v w' => v = .int .i64 (num (rest.take size.toNat)) ∧ Keep [] w w') := by
  obtain ⟨bs, at_, bw, hb, hr, hn, hal, rfl, hbl⟩ := h
  have hB : Keep [] w w := Keep.refl _ _
  have hcap := hr.vcap
  have hdl : (bs.drop at_).length = bs.length - at_ := List.length_drop
  have hbound : ∀ i : Int, 0 ≤ i → i + 1 ≤ size → 0 ≤ num ((bs.drop at_).take i.toNat) ∧ num ((bs.drop at_).take i.toNat) * 256 + 255 < 9223372036854775808 := fN hs.2 h8
  refine ai Try.func86 rfl (by decide) Try.ntmps86 rfl (fun fin _ hfin => a5 (aZ (oga rfl rfl (a6 (a5 (aZ (oga rfl rfl (a6 ?_))))))))
  refine a5 (a5 (aZ (oga rfl rfl (a6 (bA (cO (Γ := Int) (fun i => [(0, .pointer (some ⟨p, 0, none⟩)), (1, .int .i64 size), (5, .int .i64 (num ((bs.drop at_).take i.toNat))), (6, .int .i64 i)]) (fun i W => 0 ≤ i ∧ i ≤ size ∧ Keep [] w W) (fun i => (size - i).toNat) 0 ⟨rfl, rfl, rfl, rfl, trivial⟩ (⟨by decide, by omega, hB⟩) ?_))))))
  rintro i w1 ⟨hi0, hi1, hB⟩
  refine af [(0, .pointer (some ⟨p, 0, none⟩)), (1, .int .i64 size), (5, .int .i64 (num ((bs.drop at_).take i.toNat))), (6, .int .i64 i)] ⟨rfl, rfl, rfl, rfl, trivial⟩ ?_
  replace hb := hb.oC hB
  refine a5 (a5 (aZ (ogm rfl rfl (ogm rfl rfl (a7 (cN rfl rfl) rfl (a6 (bF rfl (fun hc1 => ?_) (fun hc1 => ?_))))))))
  · -- yes
    refine aj (a5 (bA ?_))
    obtain ⟨x, hx⟩ : ∃ x, (bs.drop at_)[i.toNat]? = some x := ⟨_, List.getElem?_eq_getElem (by omega)⟩
    have hgb : gb bs ((at_ : Int) + i) = x.toNat := by unfold gb; rw [List.getD_eq_getElem?_getD, show ((at_ : Int) + i).toNat = at_ + i.toNat from by omega, ← List.getElem?_drop, hx]; rfl
    have hxl := x.toNat_lt
    have hnum : num ((bs.drop at_).take (i + 1).toNat) = num ((bs.drop at_).take i.toNat) * 256 + x.toNat := by rw [show (i + 1).toNat = i.toNat + 1 from by omega, cQ hx, eO]
    have hbd := hbound i hi0 (by omega)
    have hor : bits .or .i64 (num ((bs.drop at_).take i.toNat) * 256) (gb bs ((at_ : Int) + i)) = num ((bs.drop at_).take (i + 1).toNat) := by rw [hnum, hgb]; exact lK 8 (by omega) (by omega) (by omega) (by omega) (by omega) (by omega)
    have hgr := gH bs ((at_ : Int) + i)
    refine gN 16 mixed [(0, _), (6, _), (1, _), (5, _), (7, _), (8, _), (9, _)] (fun jj v W => match jj with | 0 => v = .int .i64 (num ((bs.drop at_).take i.toNat)) | 1 => v = .int .i64 ((num ((bs.drop at_).take i.toNat)) * 256) | 2 => v = .pointer (some ⟨p, 0, none⟩) | 3 => v = .pointer (some ⟨p, 0, none⟩) | 4 => v = .pointer (some ⟨p, 0 + 0, none⟩) | 5 => v = bw | 6 => v = .pointer (some ⟨p, 0, none⟩) | 7 => v = .pointer (some ⟨p, 0, none⟩) | 8 => v = .pointer (some ⟨p, 0 + 1, none⟩) | 9 => v = .int .i64 (at_ : Int) | 10 => v = .int .i64 i | 11 => v = .int .i64 ((at_ : Int) + i) | 12 => v = .pointer (some (ea bw ((((at_ : Int) + i)).toNat * 1))) | 13 => v = .int .u8 (gb bs (((at_ : Int) + i))) | 14 => v = .int .i64 (gb bs (((at_ : Int) + i))) | 15 => v = .int .i64 (bits .or .i64 ((num ((bs.drop at_).take i.toNat)) * 256) (gb bs (((at_ : Int) + i)))) | _ => True) ⟨rfl, rfl, rfl, rfl, rfl, rfl, rfl, trivial⟩ (by decide) (by decide) rfl ?_ ?_ ?_
    · intro jj v W W' h k
      match jj, h with
      | 0, h => exact h
      | 1, h => exact h
      | 2, h => exact h
      | 3, h => exact h
      | 4, h => exact h
      | 5, h => exact h
      | 6, h => exact h
      | 7, h => exact h
      | 8, h => exact h
      | 9, h => exact h
      | 10, h => exact h
      | 11, h => exact h
      | 12, h => exact h
      | 13, h => exact h
      | 14, h => exact h
      | 15, h => exact h
      | _ + 16, _ => trivial
    · refine ⟨?_, ?_, ?_, ?_, ?_, ?_, ?_, ?_, ?_, ?_, ?_, ?_, ?_, ?_, ?_, ?_, trivial⟩
      · refine ⟨[], rfl, ?_⟩; rintro W1 hk vs hd
        obtain ⟨hB, hb⟩ := bX hk hB hb
        refine ⟨true, fun a _ => rfl, fun _ => (aa [(5, _)] ⟨rfl, trivial⟩ ?_), fun h => by cases h⟩
        refine (Gives.does (bC rfl)).mono ?_
        rintro v W2 ⟨rfl, rfl⟩
        exact ⟨Keep.refl _ _, rfl⟩
      · refine ⟨[0], rfl, ?_⟩; rintro W1 hk vs hd
        have d0 : (vs 0) = .int .i64 (num ((bs.drop at_).take i.toNat)) := hd 0 (by decide)
        obtain ⟨hB, hb⟩ := bX hk hB hb
        refine ⟨true, fun a _ => rfl, fun _ => (aa [(12, .int .i64 (num ((bs.drop at_).take i.toNat)))] ⟨congrArg some d0, trivial⟩ ?_), fun h => by cases h⟩
        refine (Gives.does (lr (m := 256) rfl rfl (by decide) (by decide) (by omega))).mono ?_
        rintro v W2 ⟨rfl, rfl⟩
        exact ⟨Keep.refl _ _, rfl⟩
      · refine ⟨[], rfl, ?_⟩; rintro W1 hk vs hd
        obtain ⟨hB, hb⟩ := bX hk hB hb
        refine ⟨true, fun a _ => rfl, fun _ => (aa [(0, _)] ⟨rfl, trivial⟩ ?_), fun h => by cases h⟩
        refine (Gives.does (bC rfl)).mono ?_
        rintro v W2 ⟨rfl, rfl⟩
        exact ⟨Keep.refl _ _, rfl⟩
      · refine ⟨[2], rfl, ?_⟩; rintro W1 hk vs hd
        have d2 : (vs 2) = .pointer (some ⟨p, 0, none⟩) := hd 2 (by decide)
        obtain ⟨hB, hb⟩ := bX hk hB hb
        refine ⟨true, fun a _ => rfl, fun _ => (aa [(14, .pointer (some ⟨p, 0, none⟩))] ⟨congrArg some d2, trivial⟩ ?_), fun h => by cases h⟩
        refine (Gives.does (ao rfl)).mono ?_
        rintro v W2 ⟨rfl, rfl⟩
        exact ⟨Keep.refl _ _, rfl⟩
      · refine ⟨[3], rfl, ?_⟩; rintro W1 hk vs hd
        have d3 : (vs 3) = .pointer (some ⟨p, 0, none⟩) := hd 3 (by decide)
        obtain ⟨hB, hb⟩ := bX hk hB hb
        refine ⟨true, fun a _ => rfl, fun _ => (aa [(15, .pointer (some ⟨p, 0, none⟩))] ⟨congrArg some d3, trivial⟩ ?_), fun h => by cases h⟩
        refine (Gives.does (ak aF rfl am (by decide) rfl)).mono ?_
        rintro v W2 ⟨rfl, rfl⟩
        exact ⟨Keep.refl _ _, rfl⟩
      · refine ⟨[4], rfl, ?_⟩; rintro W1 hk vs hd
        have d4 : (vs 4) = .pointer (some ⟨p, 0 + 0, none⟩) := hd 4 (by decide)
        obtain ⟨hB, hb⟩ := bX hk hB hb
        refine ⟨true, fun a _ => rfl, fun _ => (aa [(16, .pointer (some ⟨p, 0 + 0, none⟩))] ⟨congrArg some d4, trivial⟩ ?_), fun h => by cases h⟩
        refine (Gives.does (ae aw rfl (by assumption) rfl)).mono ?_
        rintro v W2 ⟨rfl, rfl⟩
        exact ⟨Keep.refl _ _, rfl⟩
      · refine ⟨[], rfl, ?_⟩; rintro W1 hk vs hd
        obtain ⟨hB, hb⟩ := bX hk hB hb
        refine ⟨true, fun a _ => rfl, fun _ => (aa [(0, _)] ⟨rfl, trivial⟩ ?_), fun h => by cases h⟩
        refine (Gives.does (bC rfl)).mono ?_
        rintro v W2 ⟨rfl, rfl⟩
        exact ⟨Keep.refl _ _, rfl⟩
      · refine ⟨[6], rfl, ?_⟩; rintro W1 hk vs hd
        have d6 : (vs 6) = .pointer (some ⟨p, 0, none⟩) := hd 6 (by decide)
        obtain ⟨hB, hb⟩ := bX hk hB hb
        refine ⟨true, fun a _ => rfl, fun _ => (aa [(18, .pointer (some ⟨p, 0, none⟩))] ⟨congrArg some d6, trivial⟩ ?_), fun h => by cases h⟩
        refine (Gives.does (ao rfl)).mono ?_
        rintro v W2 ⟨rfl, rfl⟩
        exact ⟨Keep.refl _ _, rfl⟩
      · refine ⟨[7], rfl, ?_⟩; rintro W1 hk vs hd
        have d7 : (vs 7) = .pointer (some ⟨p, 0, none⟩) := hd 7 (by decide)
        obtain ⟨hB, hb⟩ := bX hk hB hb
        refine ⟨true, fun a _ => rfl, fun _ => (aa [(19, .pointer (some ⟨p, 0, none⟩))] ⟨congrArg some d7, trivial⟩ ?_), fun h => by cases h⟩
        refine (Gives.does (ak aF rfl bh (by decide) rfl)).mono ?_
        rintro v W2 ⟨rfl, rfl⟩
        exact ⟨Keep.refl _ _, rfl⟩
      · refine ⟨[8], rfl, ?_⟩; rintro W1 hk vs hd
        have d8 : (vs 8) = .pointer (some ⟨p, 0 + 1, none⟩) := hd 8 (by decide)
        obtain ⟨hB, hb⟩ := bX hk hB hb
        refine ⟨true, fun a _ => rfl, fun _ => (aa [(20, .pointer (some ⟨p, 0 + 1, none⟩))] ⟨congrArg some d8, trivial⟩ ?_), fun h => by cases h⟩
        refine (Gives.does (ae cY rfl (by assumption) rfl)).mono ?_
        rintro v W2 ⟨rfl, rfl⟩
        exact ⟨Keep.refl _ _, rfl⟩
      · refine ⟨[], rfl, ?_⟩; rintro W1 hk vs hd
        obtain ⟨hB, hb⟩ := bX hk hB hb
        refine ⟨true, fun a _ => rfl, fun _ => (aa [(6, _)] ⟨rfl, trivial⟩ ?_), fun h => by cases h⟩
        refine (Gives.does (bC rfl)).mono ?_
        rintro v W2 ⟨rfl, rfl⟩
        exact ⟨Keep.refl _ _, rfl⟩
      · refine ⟨[9, 10], rfl, ?_⟩; rintro W1 hk vs hd
        have d9 : (vs 9) = .int .i64 (at_ : Int) := hd 9 (by decide)
        have d10 : (vs 10) = .int .i64 i := hd 10 (by decide)
        obtain ⟨hB, hb⟩ := bX hk hB hb
        refine ⟨true, fun a _ => rfl, fun _ => (aa [(21, .int .i64 (at_ : Int)), (22, .int .i64 i)] ⟨congrArg some d9, congrArg some d10, trivial⟩ ?_), fun h => by cases h⟩
        refine (Gives.does (bN rfl rfl (by omega))).mono ?_
        rintro v W2 ⟨rfl, rfl⟩
        exact ⟨Keep.refl _ _, rfl⟩
      · refine ⟨[5, 11], rfl, ?_⟩; rintro W1 hk vs hd
        have d5 : (vs 5) = bw := hd 5 (by decide)
        have d11 : (vs 11) = .int .i64 ((at_ : Int) + i) := hd 11 (by decide)
        obtain ⟨hB, hb⟩ := bX hk hB hb
        refine ⟨true, fun a _ => rfl, fun _ => (aa [(17, bw), (23, .int .i64 ((at_ : Int) + i))] ⟨congrArg some d5, congrArg some d11, trivial⟩ ?_), fun h => by cases h⟩
        refine (Gives.does (eF aA cT rfl (by first | assumption | exact Own.rd (by assumption) | exact Rd.oC (by assumption) hB | exact Own.rd (Own.oC (by assumption) hB)) rfl (by omega))).mono ?_
        rintro v W2 ⟨rfl, rfl⟩
        exact ⟨Keep.refl _ _, rfl⟩
      · refine ⟨[12], rfl, ?_⟩; rintro W1 hk vs hd
        have d12 : (vs 12) = .pointer (some (ea bw ((((at_ : Int) + i)).toNat * 1))) := hd 12 (by decide)
        obtain ⟨hB, hb⟩ := bX hk hB hb
        refine ⟨true, fun a _ => rfl, fun _ => (aa [(24, .pointer (some (ea bw ((((at_ : Int) + i)).toNat * 1))))] ⟨congrArg some d12, trivial⟩ ?_), fun h => by cases h⟩
        refine (Gives.does (gh sc5 rfl (by first | assumption | exact Own.rd (by assumption) | exact Rd.oC (by assumption) hB | exact Own.rd (Own.oC (by assumption) hB)) (by omega))).mono ?_
        rintro v W2 ⟨rfl, rfl⟩
        exact ⟨Keep.refl _ _, rfl⟩
      · refine ⟨[13], rfl, ?_⟩; rintro W1 hk vs hd
        have d13 : (vs 13) = .int .u8 (gb bs (((at_ : Int) + i))) := hd 13 (by decide)
        replace hB := hB.trans hk
        refine ⟨true, fun a _ => rfl, fun _ => (aa [(25, .int .u8 (gb bs (((at_ : Int) + i))))] ⟨congrArg some d13, trivial⟩ ?_), fun h => by cases h⟩
        refine (Gives.does (lu (by rw [aG]; rfl) aM rfl (by omega))).mono ?_
        rintro v W2 ⟨rfl, rfl⟩
        exact ⟨Keep.refl _ _, rfl⟩
      · refine ⟨[1, 14], rfl, ?_⟩; rintro W1 hk vs hd
        have d1 : (vs 1) = .int .i64 ((num ((bs.drop at_).take i.toNat)) * 256) := hd 1 (by decide)
        have d14 : (vs 14) = .int .i64 (gb bs (((at_ : Int) + i))) := hd 14 (by decide)
        replace hB := hB.trans hk
        refine ⟨true, fun a _ => rfl, fun _ => (aa [(13, .int .i64 ((num ((bs.drop at_).take i.toNat)) * 256)), (26, .int .i64 (gb bs (((at_ : Int) + i))))] ⟨congrArg some d1, congrArg some d14, trivial⟩ ?_), fun h => by cases h⟩
        refine (Gives.does (nk rfl rfl)).mono ?_
        rintro v W2 ⟨rfl, rfl⟩
        exact ⟨Keep.refl _ _, rfl⟩
    rintro w2 k1 vs hv
    have z_k1 := k1.size
    replace hB := hB.trans k1
    have e27 : (vs 15) = .int .i64 (bits .or .i64 ((num ((bs.drop at_).take i.toNat)) * 256) (gb bs (((at_ : Int) + i)))) := hv 15 (by decide) rfl
    refine cv [(27, .int .i64 (bits .or .i64 ((num ((bs.drop at_).take i.toNat)) * 256) (gb bs (((at_ : Int) + i))))), (0, _), (6, _), (1, _), (5, _), (7, _), (8, _), (9, _)] ⟨congrArg some e27, rfl, rfl, rfl, rfl, rfl, rfl, rfl, trivial⟩ (oga rfl rfl (a6 (cG (aZ (ogm rfl rfl (a7 (bN rfl rfl (by omega)) rfl (oga rfl rfl (a6 ?_))))))))
    refine cP (Γ := Int) (i + 1) ⟨rfl, rfl, congrArg (fun z : Int => some (Value.int .i64 z)) hor, rfl, trivial⟩ (by (try dsimp only); omega) (⟨by omega, by omega, hB⟩)
  · -- no
    refine bd rfl (a5 (aZ (ogm rfl rfl (oga rfl rfl (a6 (al hfin Try.results86 rfl ?_))))))
    obtain rfl : i = size := by omega
    exact ⟨rfl, hB⟩
theorem eK (v : Value) (xs : List UInt8) (w : World) (hv : RdB w v xs) (hx : xs.length ≤ 140737488355328) : Rets Try.prog 42 [v] w (fun r w' => ∃ p, r = .pointer (some ⟨p, 0, none⟩) ∧ RdRL w' w.heap.size p xs 0 ∧ Keep [] w w') := by
 have hB : Keep [] w w := Keep.refl _ _
 refine ai Try.func42 rfl (by decide) Try.ntmps42 rfl (fun fin _ hfin => a5 (aZ (oga rfl rfl (a6 (a5 (aZ (ah (de (m := 0) (xs := []) (vs := []) aA cT (by decide) rfl rfl rfl (by first | (simp; done) | (intro v hv; rw [List.mem_singleton] at hv; subst hv; rfl)) (by decide)) rfl ?_)))))))
 rintro v1 w1 ⟨o1, nn1, lb1, k1, z1⟩
 have z_k1 := k1.size
 replace hB := hB.trans k1
 have u_o1 := o1.blk
 replace o1 : Own w1 _ _ 1 v1 0 (bv []) := o1
 refine ogm rfl rfl (ah (bW  aA cT rfl (by first | assumption | exact a8 _ _ _ _) rfl (by first | assumption | exact Own.rd ‹_› | exact Rd.oC ‹_› hB | exact Own.rd (Own.oC ‹_› hB)) (by first | omega | (simp only [cI, List.length_append, Int.toNat_natCast] at *; omega)) (by have := hB.size; omega)) rfl ?_)
 rintro v2 w2 ⟨o2, k2, lb2, nn2⟩
 have z_k2 := k2.size
 replace hB := hB.new k2 (fun x hx => .inl (o1.blk x hx).1)
 have u_o2 := fun x hx => (lb2 x hx).elim (fun h => Or.inl (u_o1 x h)) (fun h => Or.inr (And.intro h (o2.blk x hx).2))
 refine a7 (cA (idx := [0]) (xs := [.tmp 5]) (vs := [_]) (css := [[_]]) (out := [_, _, _]) pl107 ty107 rfl rfl ⟨Rd.cells (by first | assumption | exact Own.rd ‹_› | exact Rd.oC ‹_› hB | exact Own.rd (Own.oC ‹_› hB)), trivial⟩ rfl rfl) rfl (ah (bc (cs := [_, _, _]) rfl rfl) rfl ?_)
 rintro _ w3 ⟨b1, rfl, eb1, hb1, k3, z2⟩
 have z_k3 := k3.size
 replace o2 := o2.oC k3
 replace hB := hB.trans k3
 refine oga rfl rfl (a6 (al hfin Try.results42 rfl ?_))
 exact ⟨_, rfl, ⟨by omega, xs, 0, _, hb1, by simpa using o2.rd, fun x hx => by have := u_o2 x hx; omega, Nat.zero_le _, rfl, hx⟩, hB⟩
theorem mS (p at_ : Nat) (bs : List UInt8) (bw : Value) (e : Int) (w : World) (h : RdA w p bs bw at_ e) : Rets Try.prog 88 [.pointer (some ⟨p, 0, none⟩)] w (fun v w' => ∃ r a2, r = rLen (bs.drop at_) e ∧ v = .int .i64 r.1 ∧ RdA w' p bs bw a2 r.2.2 ∧ r.2.1 = bs.drop a2 ∧ Keep [p] w w') := by
  obtain ⟨hb, hr, hn, hal, hbl⟩ := h
  have hB : Keep [p] w w := Keep.refl _ _
  have hcap := hr.vcap
  have hdl : (bs.drop at_).length = bs.length - at_ := List.length_drop
  have hg0 : gb bs (at_ : Int) = (((bs.drop at_).getD 0 0).toNat : Int) := by unfold gb; rw [List.getD_eq_getElem?_getD, List.getD_eq_getElem?_getD, List.getElem?_drop, Int.toNat_natCast, Nat.add_zero]
  have hgr := gH bs (at_ : Int)
  have hnb : ∀ n, n ≤ 7 → 0 ≤ num ((bs.drop at_).take n) ∧ num ((bs.drop at_).take n) < 9223372036854775808 := jE (bs.drop at_)
  have htop0 : (bs.drop at_).length = 0 → top (bs.drop at_) = 0 := by intro h0; rw [List.length_eq_zero_iff] at h0; rw [h0]; rfl
  refine ai Try.func88 rfl (by decide) Try.ntmps88 rfl (fun fin _ hfin => a5 (aZ (oga rfl rfl (a6 (a5 (a5 (aZ (ogm rfl rfl ?_))))))))
  refine a7 (ao rfl) rfl (a7 (ak aF rfl bh (by decide) rfl) rfl (a7 (ae cY rfl (by assumption) rfl) rfl (a7 (bn rfl rfl) rfl (a6 (bF rfl (fun hc1 => ?_) (fun hc1 => ?_))))))
  · -- yes
    refine a5 (aZ (oga rfl rfl (a6 (al hfin Try.results88 rfl ?_))))
    refine ⟨(0, bs.drop at_, e), at_, ?_, rfl, ⟨hb, hr, hn, by omega, hbl⟩, rfl, hB⟩
    unfold rLen
    try rw [htop]
    try simp only [Nat.reducePow, Nat.reduceMul, Nat.reduceSub, Int.reducePow]
    repeat (first | rw [if_pos (by assumption)] | rw [if_neg (by assumption)] | rw [if_pos (by omega)] | rw [if_neg (by omega)])
    all_goals first | rfl | (refine Prod.ext rfl (Prod.ext rfl ?_); show _ = _; dsimp only; omega)
  · -- no
    refine aj (a5 (a5 (aZ (ogm rfl rfl (ah (ab (vs := [_]) rfl (dB _ _ _ _ (by exact ⟨bs, at_, bw, by assumption, by assumption, hn, hal, rfl, hbl⟩))) rfl ?_)))))
    rintro _ w1 ⟨rfl, k1⟩
    have z_k1 := k1.size
    replace hb := hb.oC k1
    replace hr := hr.oC k1
    replace hB := hB.trans k1.weak
    refine a7 (bE rfl rfl) rfl (a6 (bF rfl (fun hc2 => ?_) (fun hc2 => ?_)))
    · -- yes
      refine a5 (aZ (ogm rfl rfl (a7 (ao rfl) rfl (a7 (ak aF rfl bh (by decide) rfl) rfl (an (bV bh rfl rfl rfl hb rfl) ?_)))))
      rintro _ w2 ⟨hb1, k2, z1⟩
      have z_k2 := k2.size
      replace hr := hr.keep k2 (fun x hx hm => Nat.ne_of_lt (hn x hx) (List.mem_singleton.1 hm))
      replace hB := hB.trans k2
      refine a6 (a5 (aZ (oga rfl rfl (a6 (al hfin Try.results88 rfl ?_)))))
      have htop := htop0 (by omega)
      refine ⟨(0, bs.drop at_, 20), at_, ?_, rfl, ⟨hb1, hr, hn, by omega, hbl⟩, rfl, hB⟩
      unfold rLen
      try rw [htop]
      try simp only [Nat.reducePow, Nat.reduceMul, Nat.reduceSub, Int.reducePow]
      repeat (first | rw [if_pos (by assumption)] | rw [if_neg (by assumption)] | rw [if_pos (by omega)] | rw [if_neg (by omega)])
      all_goals first | rfl | (refine Prod.ext rfl (Prod.ext rfl ?_); show _ = _; dsimp only; omega)
    · -- no
      refine aj (a5 (gN 12 mixed [(0, _), (2, _), (6, _), (7, _), (8, _), (9, _), (10, _), (11, _), (12, _), (13, _)] (fun jj v W => match jj with | 0 => v = .pointer (some ⟨p, 0, none⟩) | 1 => v = .pointer (some ⟨p, 0, none⟩) | 2 => v = .pointer (some ⟨p, 0 + 0, none⟩) | 3 => v = bw | 4 => v = .pointer (some ⟨p, 0, none⟩) | 5 => v = .pointer (some ⟨p, 0, none⟩) | 6 => v = .pointer (some ⟨p, 0 + 1, none⟩) | 7 => v = .int .i64 (at_ : Int) | 8 => v = .pointer (some (ea bw (((at_ : Int)).toNat * 1))) | 9 => v = .int .u8 (gb bs ((at_ : Int))) | 10 => v = .int .u8 ((gb bs ((at_ : Int))) / 64) | 11 => v = .int .i64 ((gb bs ((at_ : Int))) / 64) | _ => True) ⟨rfl, rfl, rfl, rfl, rfl, rfl, rfl, rfl, rfl, rfl, trivial⟩ (by decide) (by decide) rfl ?_ ?_ ?_))
      · intro jj v W W' h k
        match jj, h with
        | 0, h => exact h
        | 1, h => exact h
        | 2, h => exact h
        | 3, h => exact h
        | 4, h => exact h
        | 5, h => exact h
        | 6, h => exact h
        | 7, h => exact h
        | 8, h => exact h
        | 9, h => exact h
        | 10, h => exact h
        | 11, h => exact h
        | _ + 12, _ => trivial
      · refine ⟨?_, ?_, ?_, ?_, ?_, ?_, ?_, ?_, ?_, ?_, ?_, ?_, trivial⟩
        · refine ⟨[], rfl, ?_⟩; rintro W1 hk vs hd
          replace hb := hb.oC hk
          replace hr := hr.oC hk
          replace hB := hB.trans hk.weak
          refine ⟨true, fun a _ => rfl, fun _ => (aa [(0, _)] ⟨rfl, trivial⟩ ?_), fun h => by cases h⟩
          refine (Gives.does (bC rfl)).mono ?_
          rintro v W2 ⟨rfl, rfl⟩
          exact ⟨Keep.refl _ _, rfl⟩
        · refine ⟨[0], rfl, ?_⟩; rintro W1 hk vs hd
          have d0 : (vs 0) = .pointer (some ⟨p, 0, none⟩) := hd 0 (by decide)
          replace hb := hb.oC hk
          replace hr := hr.oC hk
          replace hB := hB.trans hk.weak
          refine ⟨true, fun a _ => rfl, fun _ => (aa [(17, .pointer (some ⟨p, 0, none⟩))] ⟨congrArg some d0, trivial⟩ ?_), fun h => by cases h⟩
          refine (Gives.does (ao rfl)).mono ?_
          rintro v W2 ⟨rfl, rfl⟩
          exact ⟨Keep.refl _ _, rfl⟩
        · refine ⟨[1], rfl, ?_⟩; rintro W1 hk vs hd
          have d1 : (vs 1) = .pointer (some ⟨p, 0, none⟩) := hd 1 (by decide)
          replace hb := hb.oC hk
          replace hr := hr.oC hk
          replace hB := hB.trans hk.weak
          refine ⟨true, fun a _ => rfl, fun _ => (aa [(18, .pointer (some ⟨p, 0, none⟩))] ⟨congrArg some d1, trivial⟩ ?_), fun h => by cases h⟩
          refine (Gives.does (ak aF rfl am (by decide) rfl)).mono ?_
          rintro v W2 ⟨rfl, rfl⟩
          exact ⟨Keep.refl _ _, rfl⟩
        · refine ⟨[2], rfl, ?_⟩; rintro W1 hk vs hd
          have d2 : (vs 2) = .pointer (some ⟨p, 0 + 0, none⟩) := hd 2 (by decide)
          replace hb := hb.oC hk
          replace hr := hr.oC hk
          replace hB := hB.trans hk.weak
          refine ⟨true, fun a _ => rfl, fun _ => (aa [(19, .pointer (some ⟨p, 0 + 0, none⟩))] ⟨congrArg some d2, trivial⟩ ?_), fun h => by cases h⟩
          refine (Gives.does (ae aw rfl (by assumption) rfl)).mono ?_
          rintro v W2 ⟨rfl, rfl⟩
          exact ⟨Keep.refl _ _, rfl⟩
        · refine ⟨[], rfl, ?_⟩; rintro W1 hk vs hd
          replace hb := hb.oC hk
          replace hr := hr.oC hk
          replace hB := hB.trans hk.weak
          refine ⟨true, fun a _ => rfl, fun _ => (aa [(0, _)] ⟨rfl, trivial⟩ ?_), fun h => by cases h⟩
          refine (Gives.does (bC rfl)).mono ?_
          rintro v W2 ⟨rfl, rfl⟩
          exact ⟨Keep.refl _ _, rfl⟩
        · refine ⟨[4], rfl, ?_⟩; rintro W1 hk vs hd
          have d4 : (vs 4) = .pointer (some ⟨p, 0, none⟩) := hd 4 (by decide)
          replace hb := hb.oC hk
          replace hr := hr.oC hk
          replace hB := hB.trans hk.weak
          refine ⟨true, fun a _ => rfl, fun _ => (aa [(21, .pointer (some ⟨p, 0, none⟩))] ⟨congrArg some d4, trivial⟩ ?_), fun h => by cases h⟩
          refine (Gives.does (ao rfl)).mono ?_
          rintro v W2 ⟨rfl, rfl⟩
          exact ⟨Keep.refl _ _, rfl⟩
        · refine ⟨[5], rfl, ?_⟩; rintro W1 hk vs hd
          have d5 : (vs 5) = .pointer (some ⟨p, 0, none⟩) := hd 5 (by decide)
          replace hb := hb.oC hk
          replace hr := hr.oC hk
          replace hB := hB.trans hk.weak
          refine ⟨true, fun a _ => rfl, fun _ => (aa [(22, .pointer (some ⟨p, 0, none⟩))] ⟨congrArg some d5, trivial⟩ ?_), fun h => by cases h⟩
          refine (Gives.does (ak aF rfl bh (by decide) rfl)).mono ?_
          rintro v W2 ⟨rfl, rfl⟩
          exact ⟨Keep.refl _ _, rfl⟩
        · refine ⟨[6], rfl, ?_⟩; rintro W1 hk vs hd
          have d6 : (vs 6) = .pointer (some ⟨p, 0 + 1, none⟩) := hd 6 (by decide)
          replace hb := hb.oC hk
          replace hr := hr.oC hk
          replace hB := hB.trans hk.weak
          refine ⟨true, fun a _ => rfl, fun _ => (aa [(23, .pointer (some ⟨p, 0 + 1, none⟩))] ⟨congrArg some d6, trivial⟩ ?_), fun h => by cases h⟩
          refine (Gives.does (ae cY rfl (by assumption) rfl)).mono ?_
          rintro v W2 ⟨rfl, rfl⟩
          exact ⟨Keep.refl _ _, rfl⟩
        · refine ⟨[3, 7], rfl, ?_⟩; rintro W1 hk vs hd
          have d3 : (vs 3) = bw := hd 3 (by decide)
          have d7 : (vs 7) = .int .i64 (at_ : Int) := hd 7 (by decide)
          replace hb := hb.oC hk
          replace hr := hr.oC hk
          replace hB := hB.trans hk.weak
          refine ⟨true, fun a _ => rfl, fun _ => (aa [(20, bw), (24, .int .i64 (at_ : Int))] ⟨congrArg some d3, congrArg some d7, trivial⟩ ?_), fun h => by cases h⟩
          refine (Gives.does (eF aA cT rfl (by first | assumption | exact Own.rd (by assumption) | exact Rd.oC (by assumption) hB | exact Own.rd (Own.oC (by assumption) hB)) rfl (by omega))).mono ?_
          rintro v W2 ⟨rfl, rfl⟩
          exact ⟨Keep.refl _ _, rfl⟩
        · refine ⟨[8], rfl, ?_⟩; rintro W1 hk vs hd
          have d8 : (vs 8) = .pointer (some (ea bw (((at_ : Int)).toNat * 1))) := hd 8 (by decide)
          replace hb := hb.oC hk
          replace hr := hr.oC hk
          replace hB := hB.trans hk.weak
          refine ⟨true, fun a _ => rfl, fun _ => (aa [(25, .pointer (some (ea bw (((at_ : Int)).toNat * 1))))] ⟨congrArg some d8, trivial⟩ ?_), fun h => by cases h⟩
          refine (Gives.does (gh sc5 rfl (by first | assumption | exact Own.rd (by assumption) | exact Rd.oC (by assumption) hB | exact Own.rd (Own.oC (by assumption) hB)) (by omega))).mono ?_
          rintro v W2 ⟨rfl, rfl⟩
          exact ⟨Keep.refl _ _, rfl⟩
        · refine ⟨[9], rfl, ?_⟩; rintro W1 hk vs hd
          have d9 : (vs 9) = .int .u8 (gb bs ((at_ : Int))) := hd 9 (by decide)
          replace hb := hb.oC hk
          replace hr := hr.oC hk
          replace hB := hB.trans hk.weak
          refine ⟨true, fun a _ => rfl, fun _ => (aa [(26, .int .u8 (gb bs ((at_ : Int))))] ⟨congrArg some d9, trivial⟩ ?_), fun h => by cases h⟩
          refine (Gives.does (eo (m := 64) rfl rfl (by decide) (by decide))).mono ?_
          rintro v W2 ⟨rfl, rfl⟩
          exact ⟨Keep.refl _ _, rfl⟩
        · refine ⟨[10], rfl, ?_⟩; rintro W1 hk vs hd
          have d10 : (vs 10) = .int .u8 ((gb bs ((at_ : Int))) / 64) := hd 10 (by decide)
          replace hb := hb.oC hk
          replace hr := hr.oC hk
          replace hB := hB.trans hk.weak
          refine ⟨true, fun a _ => rfl, fun _ => (aa [(27, .int .u8 ((gb bs ((at_ : Int))) / 64))] ⟨congrArg some d10, trivial⟩ ?_), fun h => by cases h⟩
          refine (Gives.does (lu (by rw [aG]; rfl) aM rfl (by omega))).mono ?_
          rintro v W2 ⟨rfl, rfl⟩
          exact ⟨Keep.refl _ _, rfl⟩
      rintro w3 k3 vs hv
      have z_k3 := k3.size
      replace hb := hb.oC k3
      replace hr := hr.oC k3
      replace hB := hB.trans k3.weak
      have e28 : (vs 11) = .int .i64 ((gb bs ((at_ : Int))) / 64) := hv 11 (by decide) rfl
      refine cv [(28, .int .i64 ((gb bs ((at_ : Int))) / 64)), (0, _), (2, _), (6, _), (7, _), (8, _), (9, _), (10, _), (11, _), (12, _), (13, _)] ⟨congrArg some e28, rfl, rfl, rfl, rfl, rfl, rfl, rfl, rfl, rfl, rfl, trivial⟩ (oga rfl rfl (a6 (a5 (a5 ?_))))
      rcases (show gb bs (at_ : Int) / 64 = 0 ∨ gb bs (at_ : Int) / 64 = 1 ∨ gb bs (at_ : Int) / 64 = 2 ∨ gb bs (at_ : Int) / 64 = 3 by omega) with hq | hq | hq | hq
      · have htop : top (bs.drop at_) = 0 := by unfold top; omega
        rw [hq]
        refine aZ (ogm rfl rfl (a7 (bE rfl rfl) rfl (a6 (dg rfl (by decide) (aj (a5 (aZ (ogm rfl rfl ?_))))))))
        refine a7 (iT (by rw [aM]; rfl) aU rfl (by omega)) rfl (a7 (bI (j := 1) (cq rfl rfl (by decide)) (by decide)) rfl (oga rfl rfl (a6 (a5 (a5 (aZ (ogm rfl rfl (ah (ab (vs := [_]) rfl (dB _ _ _ _ (by exact ⟨bs, at_, bw, by assumption, by assumption, hn, hal, rfl, hbl⟩))) rfl ?_))))))))
        rintro _ w4 ⟨rfl, k4⟩
        have z_k4 := k4.size
        replace hb := hb.oC k4
        replace hr := hr.oC k4
        replace hB := hB.trans k4.weak
        refine ogm rfl rfl (a7 (cN rfl rfl) rfl (a6 (bF rfl (fun hc3 => ?_) (fun hc3 => ?_))))
        · -- yes
          refine a5 (aZ (ogm rfl rfl (a7 (ao rfl) rfl (a7 (ak aF rfl bh (by decide) rfl) rfl (an (bV bh rfl rfl rfl hb rfl) ?_)))))
          rintro _ w5 ⟨hb2, k5, z2⟩
          have z_k5 := k5.size
          replace hr := hr.keep k5 (fun x hx hm => Nat.ne_of_lt (hn x hx) (List.mem_singleton.1 hm))
          replace hB := hB.trans k5
          refine a6 (a5 (aZ (oga rfl rfl (a6 (al hfin Try.results88 rfl ?_)))))
          refine ⟨(0, bs.drop at_, 20), at_, ?_, rfl, ⟨hb2, hr, hn, by omega, hbl⟩, rfl, hB⟩
          unfold rLen
          try rw [htop]
          try simp only [Nat.reducePow, Nat.reduceMul, Nat.reduceSub, Int.reducePow]
          repeat (first | rw [if_pos (by assumption)] | rw [if_neg (by assumption)] | rw [if_pos (by omega)] | rw [if_neg (by omega)])
          all_goals first | rfl | (refine Prod.ext rfl (Prod.ext rfl ?_); show _ = _; dsimp only; omega)
        · -- no
          refine aj (a5 (aZ (ogm rfl rfl (ogm rfl rfl (ah (ab (vs := [_, _]) rfl (fx _ (bs.drop at_) e _ _ (by exact ⟨bs, at_, bw, by assumption, by assumption, hn, hal, rfl, hbl⟩) (by omega) (by omega))) rfl ?_)))))
          rintro _ w6 ⟨rfl, k6⟩
          have z_k6 := k6.size
          replace hb := hb.oC k6
          replace hr := hr.oC k6
          replace hB := hB.trans k6.weak
          refine ogm rfl rfl (a7 (bI (j := 8) (ck rfl rfl) (by decide)) rfl (a7 (bI (j := 6) (cD rfl rfl) (by decide)) rfl (a7 (iT (by rw [aM]; rfl) aU rfl (by omega)) rfl (a7 (bI (j := 64) (cq rfl rfl (by decide)) (by decide)) rfl (a7 (bI (j := 63) (cD rfl rfl) (by decide)) rfl (a7 (v := .int .i64 (num ((bs.drop at_).take 1) % 64)) (by have hm : bits .and .i64 (num ((bs.drop at_).take 1)) 63 = num ((bs.drop at_).take 1) % 64 := dq 6 (by decide) (hnb 1 (by decide)).1 (hnb 1 (by decide)).2; rw [← hm]; exact iU rfl rfl) rfl (oga rfl rfl (a6 ?_))))))))
          refine a5 (a5 (aZ (ogm rfl rfl (a7 (bE rfl rfl) rfl (ogm rfl rfl (aq 56 true rfl (fun c1 hgc1 => a9 [(5, _)] (ad rfl rfl rfl hgc1) ⟨bB rfl, trivial⟩ (fun hw1 => bC rfl) rfl (a9 [(57, _)] (ad rfl rfl rfl hgc1) ⟨ag rfl, trivial⟩ (fun hw2 => cN rfl rfl) rfl ?_))))))))
          refine a7 (bM rfl rfl hgc1) rfl (ogm rfl rfl (aq 60 false rfl (fun c2 hgc2 => a9 [(4, _)] (ad rfl rfl rfl hgc2) ⟨bB rfl, trivial⟩ (fun hw3 => bC rfl) rfl (a9 [(61, _)] (ad rfl rfl rfl hgc2) ⟨ag rfl, trivial⟩ (fun hw4 => bE rfl rfl) rfl (a9 [(62, _)] (ad rfl rfl rfl hgc2) ⟨ag rfl, trivial⟩ (fun hw5 => bC rfl) rfl (ci 63 true rfl (fun c3 hgc3 => a9 [(5, _)] (cE rfl rfl rfl hgc3) ⟨bB rfl, trivial⟩ (fun hw6 => bC rfl) rfl (a9 [(64, _)] (cE rfl rfl rfl hgc3) ⟨ag rfl, trivial⟩ (fun hw7 => cN rfl rfl) rfl ?_))))))))
          refine cu (ad rfl rfl rfl hgc2) (ag rfl) rfl hgc3 rfl (a7 (bP rfl rfl hgc2) rfl (a6 (bD rfl (fun hc4 => ?_) (fun hc4 => ?_))))
          · -- yes
            have hd1 := hc4
            try (simp only [Bool.and_eq_true, Bool.or_eq_true, decide_eq_true_eq, Bool.and_eq_false_iff, Bool.or_eq_false_iff, decide_eq_false_iff_not, Bool.not_eq_true', Bool.not_eq_false', Bool.not_eq_true, Bool.not_eq_false, ne_eq, Decidable.not_not, decide_true, decide_false, Bool.true_and, Bool.false_and, Bool.or_false, Bool.false_or, not_true_eq_false, false_or, or_false, true_and, and_true, not_false_eq_true, reduceCtorEq] at hd1)
            refine a5 (aZ (ogm rfl rfl (a7 (ao rfl) rfl (a7 (ak aF rfl bh (by decide) rfl) rfl (an (bV bh rfl rfl rfl hb rfl) ?_)))))
            rintro _ w7 ⟨hb3, k7, z3⟩
            have z_k7 := k7.size
            replace hr := hr.keep k7 (fun x hx hm => Nat.ne_of_lt (hn x hx) (List.mem_singleton.1 hm))
            replace hB := hB.trans k7
            refine a6 (a5 (aZ (oga rfl rfl (a6 (al hfin Try.results88 rfl ?_)))))
            refine ⟨(0, bs.drop at_, 21), at_, ?_, rfl, ⟨hb3, hr, hn, by omega, hbl⟩, rfl, hB⟩
            unfold rLen
            try rw [htop]
            try simp only [Nat.reducePow, Nat.reduceMul, Nat.reduceSub, Int.reducePow]
            repeat (first | rw [if_pos (by assumption)] | rw [if_neg (by assumption)] | rw [if_pos (by omega)] | rw [if_neg (by omega)])
            all_goals first | rfl | (refine Prod.ext rfl (Prod.ext rfl ?_); show _ = _; dsimp only; omega)
          · -- no
            have hd2 := hc4
            try (simp only [Bool.and_eq_true, Bool.or_eq_true, decide_eq_true_eq, Bool.and_eq_false_iff, Bool.or_eq_false_iff, decide_eq_false_iff_not, Bool.not_eq_true', Bool.not_eq_false', Bool.not_eq_true, Bool.not_eq_false, ne_eq, Decidable.not_not, decide_true, decide_false, Bool.true_and, Bool.false_and, Bool.or_false, Bool.false_or, not_true_eq_false, false_or, or_false, true_and, and_true, not_false_eq_true, reduceCtorEq] at hd2)
            refine aj (a5 (aZ (ogm rfl rfl (ogm rfl rfl (a7 (ao rfl) rfl (a7 (ak aF rfl bh (by decide) rfl) rfl (a7 (ae cY rfl (by assumption) rfl) rfl (ogm rfl rfl ?_))))))))
            refine a7 (bN rfl rfl (by omega)) rfl (a7 (ao rfl) rfl (a7 (ak aF rfl bh (by decide) rfl) rfl (an (bV bh rfl rfl rfl hb rfl) ?_)))
            rintro _ w8 ⟨hb4, k8, z4⟩
            have z_k8 := k8.size
            replace hr := hr.keep k8 (fun x hx hm => Nat.ne_of_lt (hn x hx) (List.mem_singleton.1 hm))
            replace hB := hB.trans k8
            refine a6 (a5 (aZ (ogm rfl rfl (oga rfl rfl (a6 (al hfin Try.results88 rfl ?_))))))
            refine ⟨((num ((bs.drop at_).take 1) % 64), (bs.drop at_).drop 1, e), at_ + 1, ?_, rfl, ⟨hb4, hr, hn, by omega, hbl⟩, List.drop_drop, hB⟩
            unfold rLen
            try rw [htop]
            try simp only [Nat.reducePow, Nat.reduceMul, Nat.reduceSub, Int.reducePow]
            repeat (first | rw [if_pos (by assumption)] | rw [if_neg (by assumption)] | rw [if_pos (by omega)] | rw [if_neg (by omega)])
            all_goals first | rfl | (refine Prod.ext rfl (Prod.ext rfl ?_); show _ = _; dsimp only; omega)
      · have htop : top (bs.drop at_) = 1 := by unfold top; omega
        rw [hq]
        refine aZ (ogm rfl rfl (a7 (bE rfl rfl) rfl (a6 (dg rfl (by decide) (aj (a5 (aZ (ogm rfl rfl ?_))))))))
        refine a7 (iT (by rw [aM]; rfl) aU rfl (by omega)) rfl (a7 (bI (j := 2) (cq rfl rfl (by decide)) (by decide)) rfl (oga rfl rfl (a6 (a5 (a5 (aZ (ogm rfl rfl (ah (ab (vs := [_]) rfl (dB _ _ _ _ (by exact ⟨bs, at_, bw, by assumption, by assumption, hn, hal, rfl, hbl⟩))) rfl ?_))))))))
        rintro _ w9 ⟨rfl, k9⟩
        have z_k9 := k9.size
        replace hb := hb.oC k9
        replace hr := hr.oC k9
        replace hB := hB.trans k9.weak
        refine ogm rfl rfl (a7 (cN rfl rfl) rfl (a6 (bF rfl (fun hc5 => ?_) (fun hc5 => ?_))))
        · -- yes
          refine a5 (aZ (ogm rfl rfl (a7 (ao rfl) rfl (a7 (ak aF rfl bh (by decide) rfl) rfl (an (bV bh rfl rfl rfl hb rfl) ?_)))))
          rintro _ w10 ⟨hb5, k10, z5⟩
          have z_k10 := k10.size
          replace hr := hr.keep k10 (fun x hx hm => Nat.ne_of_lt (hn x hx) (List.mem_singleton.1 hm))
          replace hB := hB.trans k10
          refine a6 (a5 (aZ (oga rfl rfl (a6 (al hfin Try.results88 rfl ?_)))))
          refine ⟨(0, bs.drop at_, 20), at_, ?_, rfl, ⟨hb5, hr, hn, by omega, hbl⟩, rfl, hB⟩
          unfold rLen
          try rw [htop]
          try simp only [Nat.reducePow, Nat.reduceMul, Nat.reduceSub, Int.reducePow]
          repeat (first | rw [if_pos (by assumption)] | rw [if_neg (by assumption)] | rw [if_pos (by omega)] | rw [if_neg (by omega)])
          all_goals first | rfl | (refine Prod.ext rfl (Prod.ext rfl ?_); show _ = _; dsimp only; omega)
        · -- no
          refine aj (a5 (aZ (ogm rfl rfl (ogm rfl rfl (ah (ab (vs := [_, _]) rfl (fx _ (bs.drop at_) e _ _ (by exact ⟨bs, at_, bw, by assumption, by assumption, hn, hal, rfl, hbl⟩) (by omega) (by omega))) rfl ?_)))))
          rintro _ w11 ⟨rfl, k11⟩
          have z_k11 := k11.size
          replace hb := hb.oC k11
          replace hr := hr.oC k11
          replace hB := hB.trans k11.weak
          refine ogm rfl rfl (a7 (bI (j := 16) (ck rfl rfl) (by decide)) rfl (a7 (bI (j := 14) (cD rfl rfl) (by decide)) rfl (a7 (iT (by rw [aM]; rfl) aU rfl (by omega)) rfl (a7 (bI (j := 16384) (cq rfl rfl (by decide)) (by decide)) rfl (a7 (bI (j := 16383) (cD rfl rfl) (by decide)) rfl (a7 (v := .int .i64 (num ((bs.drop at_).take 2) % 16384)) (by have hm : bits .and .i64 (num ((bs.drop at_).take 2)) 16383 = num ((bs.drop at_).take 2) % 16384 := dq 14 (by decide) (hnb 2 (by decide)).1 (hnb 2 (by decide)).2; rw [← hm]; exact iU rfl rfl) rfl (oga rfl rfl (a6 ?_))))))))
          refine a5 (a5 (aZ (ogm rfl rfl (a7 (bE rfl rfl) rfl (ogm rfl rfl (aq 56 true rfl (fun c4 hgc4 => a9 [(5, _)] (ad rfl rfl rfl hgc4) ⟨bB rfl, trivial⟩ (fun hw8 => bC rfl) rfl (a9 [(57, _)] (ad rfl rfl rfl hgc4) ⟨ag rfl, trivial⟩ (fun hw9 => cN rfl rfl) rfl ?_))))))))
          refine a7 (bM rfl rfl hgc4) rfl (ogm rfl rfl (aq 60 false rfl (fun c5 hgc5 => a9 [(4, _)] (ad rfl rfl rfl hgc5) ⟨bB rfl, trivial⟩ (fun hw10 => bC rfl) rfl (a9 [(61, _)] (ad rfl rfl rfl hgc5) ⟨ag rfl, trivial⟩ (fun hw11 => bE rfl rfl) rfl (a9 [(62, _)] (ad rfl rfl rfl hgc5) ⟨ag rfl, trivial⟩ (fun hw12 => bC rfl) rfl (ci 63 true rfl (fun c6 hgc6 => a9 [(5, _)] (cE rfl rfl rfl hgc6) ⟨bB rfl, trivial⟩ (fun hw13 => bC rfl) rfl (a9 [(64, _)] (cE rfl rfl rfl hgc6) ⟨ag rfl, trivial⟩ (fun hw14 => cN rfl rfl) rfl ?_))))))))
          refine cu (ad rfl rfl rfl hgc5) (ag rfl) rfl hgc6 rfl (a7 (bP rfl rfl hgc5) rfl (a6 (bD rfl (fun hc6 => ?_) (fun hc6 => ?_))))
          · -- yes
            have hd3 := hc6
            try (simp only [Bool.and_eq_true, Bool.or_eq_true, decide_eq_true_eq, Bool.and_eq_false_iff, Bool.or_eq_false_iff, decide_eq_false_iff_not, Bool.not_eq_true', Bool.not_eq_false', Bool.not_eq_true, Bool.not_eq_false, ne_eq, Decidable.not_not, decide_true, decide_false, Bool.true_and, Bool.false_and, Bool.or_false, Bool.false_or, not_true_eq_false, false_or, or_false, true_and, and_true, not_false_eq_true, reduceCtorEq] at hd3)
            refine a5 (aZ (ogm rfl rfl (a7 (ao rfl) rfl (a7 (ak aF rfl bh (by decide) rfl) rfl (an (bV bh rfl rfl rfl hb rfl) ?_)))))
            rintro _ w12 ⟨hb6, k12, z6⟩
            have z_k12 := k12.size
            replace hr := hr.keep k12 (fun x hx hm => Nat.ne_of_lt (hn x hx) (List.mem_singleton.1 hm))
            replace hB := hB.trans k12
            refine a6 (a5 (aZ (oga rfl rfl (a6 (al hfin Try.results88 rfl ?_)))))
            refine ⟨(0, bs.drop at_, 21), at_, ?_, rfl, ⟨hb6, hr, hn, by omega, hbl⟩, rfl, hB⟩
            unfold rLen
            try rw [htop]
            try simp only [Nat.reducePow, Nat.reduceMul, Nat.reduceSub, Int.reducePow]
            repeat (first | rw [if_pos (by assumption)] | rw [if_neg (by assumption)] | rw [if_pos (by omega)] | rw [if_neg (by omega)])
            all_goals first | rfl | (refine Prod.ext rfl (Prod.ext rfl ?_); show _ = _; dsimp only; omega)
          · -- no
            have hd4 := hc6
            try (simp only [Bool.and_eq_true, Bool.or_eq_true, decide_eq_true_eq, Bool.and_eq_false_iff, Bool.or_eq_false_iff, decide_eq_false_iff_not, Bool.not_eq_true', Bool.not_eq_false', Bool.not_eq_true, Bool.not_eq_false, ne_eq, Decidable.not_not, decide_true, decide_false, Bool.true_and, Bool.false_and, Bool.or_false, Bool.false_or, not_true_eq_false, false_or, or_false, true_and, and_true, not_false_eq_true, reduceCtorEq] at hd4)
            refine aj (a5 (aZ (ogm rfl rfl (ogm rfl rfl (a7 (ao rfl) rfl (a7 (ak aF rfl bh (by decide) rfl) rfl (a7 (ae cY rfl (by assumption) rfl) rfl (ogm rfl rfl ?_))))))))
            refine a7 (bN rfl rfl (by omega)) rfl (a7 (ao rfl) rfl (a7 (ak aF rfl bh (by decide) rfl) rfl (an (bV bh rfl rfl rfl hb rfl) ?_)))
            rintro _ w13 ⟨hb7, k13, z7⟩
            have z_k13 := k13.size
            replace hr := hr.keep k13 (fun x hx hm => Nat.ne_of_lt (hn x hx) (List.mem_singleton.1 hm))
            replace hB := hB.trans k13
            refine a6 (a5 (aZ (ogm rfl rfl (oga rfl rfl (a6 (al hfin Try.results88 rfl ?_))))))
            refine ⟨((num ((bs.drop at_).take 2) % 16384), (bs.drop at_).drop 2, e), at_ + 2, ?_, rfl, ⟨hb7, hr, hn, by omega, hbl⟩, List.drop_drop, hB⟩
            unfold rLen
            try rw [htop]
            try simp only [Nat.reducePow, Nat.reduceMul, Nat.reduceSub, Int.reducePow]
            repeat (first | rw [if_pos (by assumption)] | rw [if_neg (by assumption)] | rw [if_pos (by omega)] | rw [if_neg (by omega)])
            all_goals first | rfl | (refine Prod.ext rfl (Prod.ext rfl ?_); show _ = _; dsimp only; omega)
      · have htop : top (bs.drop at_) = 2 := by unfold top; omega
        rw [hq]
        refine aZ (ogm rfl rfl (a7 (bE rfl rfl) rfl (a6 (dg rfl (by decide) (aj (a5 (aZ (ogm rfl rfl ?_))))))))
        refine a7 (iT (by rw [aM]; rfl) aU rfl (by omega)) rfl (a7 (bI (j := 4) (cq rfl rfl (by decide)) (by decide)) rfl (oga rfl rfl (a6 (a5 (a5 (aZ (ogm rfl rfl (ah (ab (vs := [_]) rfl (dB _ _ _ _ (by exact ⟨bs, at_, bw, by assumption, by assumption, hn, hal, rfl, hbl⟩))) rfl ?_))))))))
        rintro _ w14 ⟨rfl, k14⟩
        have z_k14 := k14.size
        replace hb := hb.oC k14
        replace hr := hr.oC k14
        replace hB := hB.trans k14.weak
        refine ogm rfl rfl (a7 (cN rfl rfl) rfl (a6 (bF rfl (fun hc7 => ?_) (fun hc7 => ?_))))
        · -- yes
          refine a5 (aZ (ogm rfl rfl (a7 (ao rfl) rfl (a7 (ak aF rfl bh (by decide) rfl) rfl (an (bV bh rfl rfl rfl hb rfl) ?_)))))
          rintro _ w15 ⟨hb8, k15, z8⟩
          have z_k15 := k15.size
          replace hr := hr.keep k15 (fun x hx hm => Nat.ne_of_lt (hn x hx) (List.mem_singleton.1 hm))
          replace hB := hB.trans k15
          refine a6 (a5 (aZ (oga rfl rfl (a6 (al hfin Try.results88 rfl ?_)))))
          refine ⟨(0, bs.drop at_, 20), at_, ?_, rfl, ⟨hb8, hr, hn, by omega, hbl⟩, rfl, hB⟩
          unfold rLen
          try rw [htop]
          try simp only [Nat.reducePow, Nat.reduceMul, Nat.reduceSub, Int.reducePow]
          repeat (first | rw [if_pos (by assumption)] | rw [if_neg (by assumption)] | rw [if_pos (by omega)] | rw [if_neg (by omega)])
          all_goals first | rfl | (refine Prod.ext rfl (Prod.ext rfl ?_); show _ = _; dsimp only; omega)
        · -- no
          refine aj (a5 (aZ (ogm rfl rfl (ogm rfl rfl (ah (ab (vs := [_, _]) rfl (fx _ (bs.drop at_) e _ _ (by exact ⟨bs, at_, bw, by assumption, by assumption, hn, hal, rfl, hbl⟩) (by omega) (by omega))) rfl ?_)))))
          rintro _ w16 ⟨rfl, k16⟩
          have z_k16 := k16.size
          replace hb := hb.oC k16
          replace hr := hr.oC k16
          replace hB := hB.trans k16.weak
          refine ogm rfl rfl (a7 (bI (j := 32) (ck rfl rfl) (by decide)) rfl (a7 (bI (j := 30) (cD rfl rfl) (by decide)) rfl (a7 (iT (by rw [aM]; rfl) aU rfl (by omega)) rfl (a7 (bI (j := 1073741824) (cq rfl rfl (by decide)) (by decide)) rfl (a7 (bI (j := 1073741823) (cD rfl rfl) (by decide)) rfl (a7 (v := .int .i64 (num ((bs.drop at_).take 4) % 1073741824)) (by have hm : bits .and .i64 (num ((bs.drop at_).take 4)) 1073741823 = num ((bs.drop at_).take 4) % 1073741824 := dq 30 (by decide) (hnb 4 (by decide)).1 (hnb 4 (by decide)).2; rw [← hm]; exact iU rfl rfl) rfl (oga rfl rfl (a6 ?_))))))))
          refine a5 (a5 (aZ (ogm rfl rfl (a7 (bE rfl rfl) rfl (ogm rfl rfl (aq 56 true rfl (fun c7 hgc7 => a9 [(5, _)] (ad rfl rfl rfl hgc7) ⟨bB rfl, trivial⟩ (fun hw15 => bC rfl) rfl (a9 [(57, _)] (ad rfl rfl rfl hgc7) ⟨ag rfl, trivial⟩ (fun hw16 => cN rfl rfl) rfl ?_))))))))
          refine a7 (bM rfl rfl hgc7) rfl (ogm rfl rfl (aq 60 false rfl (fun c8 hgc8 => a9 [(4, _)] (ad rfl rfl rfl hgc8) ⟨bB rfl, trivial⟩ (fun hw17 => bC rfl) rfl (a9 [(61, _)] (ad rfl rfl rfl hgc8) ⟨ag rfl, trivial⟩ (fun hw18 => bE rfl rfl) rfl (a9 [(62, _)] (ad rfl rfl rfl hgc8) ⟨ag rfl, trivial⟩ (fun hw19 => bC rfl) rfl (ci 63 true rfl (fun c9 hgc9 => a9 [(5, _)] (cE rfl rfl rfl hgc9) ⟨bB rfl, trivial⟩ (fun hw20 => bC rfl) rfl (a9 [(64, _)] (cE rfl rfl rfl hgc9) ⟨ag rfl, trivial⟩ (fun hw21 => cN rfl rfl) rfl ?_))))))))
          refine cu (ad rfl rfl rfl hgc8) (ag rfl) rfl hgc9 rfl (a7 (bP rfl rfl hgc8) rfl (a6 (bD rfl (fun hc8 => ?_) (fun hc8 => ?_))))
          · -- yes
            have hd5 := hc8
            try (simp only [Bool.and_eq_true, Bool.or_eq_true, decide_eq_true_eq, Bool.and_eq_false_iff, Bool.or_eq_false_iff, decide_eq_false_iff_not, Bool.not_eq_true', Bool.not_eq_false', Bool.not_eq_true, Bool.not_eq_false, ne_eq, Decidable.not_not, decide_true, decide_false, Bool.true_and, Bool.false_and, Bool.or_false, Bool.false_or, not_true_eq_false, false_or, or_false, true_and, and_true, not_false_eq_true, reduceCtorEq] at hd5)
            refine a5 (aZ (ogm rfl rfl (a7 (ao rfl) rfl (a7 (ak aF rfl bh (by decide) rfl) rfl (an (bV bh rfl rfl rfl hb rfl) ?_)))))
            rintro _ w17 ⟨hb9, k17, z9⟩
            have z_k17 := k17.size
            replace hr := hr.keep k17 (fun x hx hm => Nat.ne_of_lt (hn x hx) (List.mem_singleton.1 hm))
            replace hB := hB.trans k17
            refine a6 (a5 (aZ (oga rfl rfl (a6 (al hfin Try.results88 rfl ?_)))))
            refine ⟨(0, bs.drop at_, 21), at_, ?_, rfl, ⟨hb9, hr, hn, by omega, hbl⟩, rfl, hB⟩
            unfold rLen
            try rw [htop]
            try simp only [Nat.reducePow, Nat.reduceMul, Nat.reduceSub, Int.reducePow]
            repeat (first | rw [if_pos (by assumption)] | rw [if_neg (by assumption)] | rw [if_pos (by omega)] | rw [if_neg (by omega)])
            all_goals first | rfl | (refine Prod.ext rfl (Prod.ext rfl ?_); show _ = _; dsimp only; omega)
          · -- no
            have hd6 := hc8
            try (simp only [Bool.and_eq_true, Bool.or_eq_true, decide_eq_true_eq, Bool.and_eq_false_iff, Bool.or_eq_false_iff, decide_eq_false_iff_not, Bool.not_eq_true', Bool.not_eq_false', Bool.not_eq_true, Bool.not_eq_false, ne_eq, Decidable.not_not, decide_true, decide_false, Bool.true_and, Bool.false_and, Bool.or_false, Bool.false_or, not_true_eq_false, false_or, or_false, true_and, and_true, not_false_eq_true, reduceCtorEq] at hd6)
            refine aj (a5 (aZ (ogm rfl rfl (ogm rfl rfl (a7 (ao rfl) rfl (a7 (ak aF rfl bh (by decide) rfl) rfl (a7 (ae cY rfl (by assumption) rfl) rfl (ogm rfl rfl ?_))))))))
            refine a7 (bN rfl rfl (by omega)) rfl (a7 (ao rfl) rfl (a7 (ak aF rfl bh (by decide) rfl) rfl (an (bV bh rfl rfl rfl hb rfl) ?_)))
            rintro _ w18 ⟨hb10, k18, z10⟩
            have z_k18 := k18.size
            replace hr := hr.keep k18 (fun x hx hm => Nat.ne_of_lt (hn x hx) (List.mem_singleton.1 hm))
            replace hB := hB.trans k18
            refine a6 (a5 (aZ (ogm rfl rfl (oga rfl rfl (a6 (al hfin Try.results88 rfl ?_))))))
            refine ⟨((num ((bs.drop at_).take 4) % 1073741824), (bs.drop at_).drop 4, e), at_ + 4, ?_, rfl, ⟨hb10, hr, hn, by omega, hbl⟩, List.drop_drop, hB⟩
            unfold rLen
            try rw [htop]
            try simp only [Nat.reducePow, Nat.reduceMul, Nat.reduceSub, Int.reducePow]
            repeat (first | rw [if_pos (by assumption)] | rw [if_neg (by assumption)] | rw [if_pos (by omega)] | rw [if_neg (by omega)])
            all_goals first | rfl | (refine Prod.ext rfl (Prod.ext rfl ?_); show _ = _; dsimp only; omega)
      · have htop : top (bs.drop at_) = 3 := by unfold top; omega
        rw [hq]
        refine aZ (ogm rfl rfl (a7 (bE rfl rfl) rfl (a6 (fb rfl (by decide) (a5 (aZ (ogm rfl rfl (a7 (ao rfl) rfl ?_))))))))
        refine a7 (ak aF rfl bh (by decide) rfl) rfl (an (bV bh rfl rfl rfl hb rfl) ?_)
        rintro _ w19 ⟨hb11, k19, z11⟩
        have z_k19 := k19.size
        replace hr := hr.keep k19 (fun x hx hm => Nat.ne_of_lt (hn x hx) (List.mem_singleton.1 hm))
        replace hB := hB.trans k19
        refine a6 (a5 (aZ (oga rfl rfl (a6 (al hfin Try.results88 rfl ?_)))))
        refine ⟨(0, bs.drop at_, 21), at_, ?_, rfl, ⟨hb11, hr, hn, by omega, hbl⟩, rfl, hB⟩
        unfold rLen
        try rw [htop]
        try simp only [Nat.reducePow, Nat.reduceMul, Nat.reduceSub, Int.reducePow]
        repeat (first | rw [if_pos (by assumption)] | rw [if_neg (by assumption)] | rw [if_pos (by omega)] | rw [if_neg (by omega)])
        all_goals first | rfl | (refine Prod.ext rfl (Prod.ext rfl ?_); show _ = _; dsimp only; omega)
theorem cl (p : Nat) (rest : List UInt8) (e : Int) (w : World) (h : RdR w p rest e) : Rets Try.prog 47 [.pointer (some ⟨p, 0, none⟩)] w (fun v w' => v = .int .i64 (rEnd rest e) ∧ Keep [] w w') := by
 obtain ⟨bs, at_, bw, hb, hr, hn, hal, rfl, hbl⟩ := h
 have hB : Keep [] w w := Keep.refl _ _
 have hcap := hr.vcap
 have hdl : (bs.drop at_).length = bs.length - at_ := List.length_drop
 refine ai Try.func47 rfl (by decide) Try.ntmps47 rfl (fun fin _ hfin => a5 (aZ (oga rfl rfl (a6 (a5 (a5 (aZ (ogm rfl rfl (a7 (ao rfl) rfl (a7 (ak aF rfl bh (by decide) rfl) rfl (a7 (ae cY rfl ‹_› rfl) rfl (a7 (bE rfl rfl) rfl (ogm rfl rfl (aq 8 true rfl (fun c1 hgc1 => a9 [(0, _)] (ad rfl rfl rfl hgc1) ⟨bB rfl, trivial⟩ (fun hw1 => bC rfl) rfl (cC [(9, _)] (ad rfl rfl rfl hgc1) ⟨ag rfl, trivial⟩ (fun hw2 => ab (vs := [_]) rfl (dB _ _ _ _ (by exact ⟨bs, at_, bw, by assumption, by assumption, hn, hal, rfl, hbl⟩))) rfl ?_))))))))))))))))
 rintro w2 k2
 have z_k2 := k2.size
 replace hb := hb.oC k2
 replace hr := hr.oC k2
 replace hB := hB.trans k2
 refine a9 [(10, _)] (ad rfl rfl rfl hgc1) ⟨ag rfl, trivial⟩ (fun hw3 => dK rfl rfl) rfl (a7 (bM rfl rfl hgc1) rfl (a6 (bD rfl (fun hc1 => ?_) (fun hc1 => ?_))))
 ·
  have hd1 := hc1
  try (simp only [Bool.and_eq_true, Bool.or_eq_true, decide_eq_true_eq, Bool.and_eq_false_iff, Bool.or_eq_false_iff, decide_eq_false_iff_not, Bool.not_eq_true', Bool.not_eq_false', Bool.not_eq_true, Bool.not_eq_false, ne_eq, Decidable.not_not, decide_true, decide_false, Bool.true_and, Bool.false_and, Bool.or_false, Bool.false_or, not_true_eq_false, false_or, or_false, true_and, and_true, not_false_eq_true, reduceCtorEq] at hd1)
  refine a5 (aZ (oga rfl rfl (a6 (al hfin Try.results47 rfl ?_))))
  refine ⟨?_, hB⟩
  congr 1
  unfold rEnd
  repeat (first | rw [if_pos ‹_›] | rw [if_neg ‹_›] | rw [if_pos (by omega)] | rw [if_neg (by omega)])
  all_goals omega
 ·
  have hd2 := hc1
  try (simp only [Bool.and_eq_true, Bool.or_eq_true, decide_eq_true_eq, Bool.and_eq_false_iff, Bool.or_eq_false_iff, decide_eq_false_iff_not, Bool.not_eq_true', Bool.not_eq_false', Bool.not_eq_true, Bool.not_eq_false, ne_eq, Decidable.not_not, decide_true, decide_false, Bool.true_and, Bool.false_and, Bool.or_false, Bool.false_or, not_true_eq_false, false_or, or_false, true_and, and_true, not_false_eq_true, reduceCtorEq] at hd2)
  refine aj (a5 (aZ (ogm rfl rfl (a7 (ao rfl) rfl (a7 (ak aF rfl bh (by decide) rfl) rfl (a7 (ae cY rfl ‹_› rfl) rfl (oga rfl rfl (a6 (al hfin Try.results47 rfl ?_)))))))))
  refine ⟨?_, hB⟩
  congr 1
  unfold rEnd
  repeat (first | rw [if_pos ‹_›] | rw [if_neg ‹_›] | rw [if_pos (by omega)] | rw [if_neg (by omega)])
  all_goals omega
theorem iF (p at_ : Nat) (bs : List UInt8) (bw : Value) (e n : Int) (w : World) (h : RdA w p bs bw at_ e) : Rets Try.prog 89 [.pointer (some ⟨p, 0, none⟩), .int .i64 n] w (fun v w' => ∃ r a2, r = rTake (bs.drop at_) e n ∧ OwnB w' w.heap.size v r.1 ∧ RdA w' p bs bw a2 r.2.2 ∧ r.2.1 = bs.drop a2 ∧ Keep [p] w w') := by
  obtain ⟨hb, hr, hn, hal, hbl⟩ := h
  have hB : Keep [p] w w := Keep.refl _ _
  have hcap := hr.vcap
  have hdl : (bs.drop at_).length = bs.length - at_ := List.length_drop
  have hg0 : gb bs (at_ : Int) = (((bs.drop at_).getD 0 0).toNat : Int) := by unfold gb; rw [List.getD_eq_getElem?_getD, List.getD_eq_getElem?_getD, List.getElem?_drop, Int.toNat_natCast, Nat.add_zero]
  have hp0 := hb.lt
  refine ai Try.func89 rfl (by decide) Try.ntmps89 rfl (fun fin _ hfin => a5 (aZ (oga rfl rfl (a6 (a5 (bA (a5 (aZ ?_))))))))
  refine ogm rfl rfl (a7 (ao rfl) rfl (a7 (ak aF rfl bh (by decide) rfl) rfl (a7 (ae cY rfl (by assumption) rfl) rfl (a7 (bn rfl rfl) rfl (oga rfl rfl (a6 (bF rfl (fun hc1 => ?_) (fun hc1 => ?_))))))))
  · -- yes
    refine a5 (aZ (oga rfl rfl (a6 (al hfin Try.results89 rfl ?_))))
    refine ⟨([], bs.drop at_, e), at_, ?_, a8 _ _ _ _, ⟨hb, hr, hn, by omega, hbl⟩, rfl, hB⟩
    unfold rTake
    repeat (first | rw [if_pos (by assumption)] | rw [if_neg (by assumption)] | rw [if_pos (by omega)] | rw [if_neg (by omega)])
    all_goals first | rfl | (refine Prod.ext rfl (Prod.ext rfl ?_); show _ = _; dsimp only; omega)
  · -- no
    refine a5 (aZ (ogm rfl rfl (a7 (cN rfl rfl) rfl (oga rfl rfl (a6 (bF rfl (fun hc2 => ?_) (fun hc2 => ?_)))))))
    · -- yes
      refine a5 (aZ (ogm rfl rfl (a7 (ao rfl) rfl (a7 (ak aF rfl bh (by decide) rfl) rfl (an (bV bh rfl rfl rfl hb rfl) ?_)))))
      rintro _ w1 ⟨hb1, k1, z1⟩
      have z_k1 := k1.size
      replace hr := hr.keep k1 (fun x hx hm => Nat.ne_of_lt (hn x hx) (List.mem_singleton.1 hm))
      replace hB := hB.trans k1
      refine a6 (a5 (aZ (oga rfl rfl (a6 (al hfin Try.results89 rfl ?_)))))
      refine ⟨([], bs.drop at_, 1), at_, ?_, a8 _ _ _ _, ⟨hb1, hr, hn, by omega, hbl⟩, rfl, hB⟩
      unfold rTake
      repeat (first | rw [if_pos (by assumption)] | rw [if_neg (by assumption)] | rw [if_pos (by omega)] | rw [if_neg (by omega)])
      all_goals first | rfl | (refine Prod.ext rfl (Prod.ext rfl ?_); show _ = _; dsimp only; omega)
    · -- no
      refine a5 (aZ (ogm rfl rfl (ogm rfl rfl (ah (ab (vs := [_]) rfl (dB _ _ _ _ (by exact ⟨bs, at_, bw, by assumption, by assumption, hn, hal, rfl, hbl⟩))) rfl ?_))))
      rintro _ w2 ⟨rfl, k2⟩
      have z_k2 := k2.size
      replace hb := hb.oC k2
      replace hr := hr.oC k2
      replace hB := hB.trans k2.weak
      refine a7 (dK rfl rfl) rfl (oga rfl rfl (a6 (bF rfl (fun hc3 => ?_) (fun hc3 => ?_))))
      · -- yes
        refine a5 (aZ (ogm rfl rfl (a7 (ao rfl) rfl (a7 (ak aF rfl bh (by decide) rfl) rfl (an (bV bh rfl rfl rfl hb rfl) ?_)))))
        rintro _ w3 ⟨hb2, k3, z2⟩
        have z_k3 := k3.size
        replace hr := hr.keep k3 (fun x hx hm => Nat.ne_of_lt (hn x hx) (List.mem_singleton.1 hm))
        replace hB := hB.trans k3
        refine a6 (a5 (aZ (oga rfl rfl (a6 (al hfin Try.results89 rfl ?_)))))
        refine ⟨([], bs.drop at_, 20), at_, ?_, a8 _ _ _ _, ⟨hb2, hr, hn, by omega, hbl⟩, rfl, hB⟩
        unfold rTake
        repeat (first | rw [if_pos (by assumption)] | rw [if_neg (by assumption)] | rw [if_pos (by omega)] | rw [if_neg (by omega)])
        all_goals first | rfl | (refine Prod.ext rfl (Prod.ext rfl ?_); show _ = _; dsimp only; omega)
      · -- no
        refine aj (cG (a5 (aZ (ogm rfl rfl (ogm rfl rfl (a7 (ao rfl) rfl (a7 (ak aF rfl bh (by decide) rfl) rfl (a7 (ae cY rfl (by assumption) rfl) rfl ?_))))))))
        refine ogm rfl rfl (a7 (bN rfl rfl (by omega)) rfl (a7 (ao rfl) rfl (a7 (ak aF rfl bh (by decide) rfl) rfl (an (bV bh rfl rfl rfl hb rfl) ?_))))
        rintro _ w4 ⟨hb3, k4, z3⟩
        have z_k4 := k4.size
        replace hr := hr.keep k4 (fun x hx hm => Nat.ne_of_lt (hn x hx) (List.mem_singleton.1 hm))
        replace hB := hB.trans k4
        refine a6 (a5 (gN 17 mixed [(0, _), (1, _), (4, _), (6, _), (7, _), (8, _), (9, _), (10, _), (5, _), (12, _), (13, _), (11, _), (18, _), (19, _), (20, _), (21, _), (17, _), (25, _), (26, _), (27, _), (28, _), (29, _), (30, _), (31, _), (32, _), (33, _)] (fun jj v W => match jj with | 0 => ∃ g, v = .slice (some ⟨g, 0, none⟩) 0 0 ∧ Bk W g 5 [] ∧ w4.heap.size ≤ g | 1 => v = .pointer (some ⟨p, 0, none⟩) | 2 => v = .pointer (some ⟨p, 0, none⟩) | 3 => v = .pointer (some ⟨p, 0 + 0, none⟩) | 4 => v = bw | 5 => v = .pointer (some ⟨p, 0, none⟩) | 6 => v = .pointer (some ⟨p, 0, none⟩) | 7 => v = .pointer (some ⟨p, 0 + 1, none⟩) | 8 => v = .int .i64 ((at_ : Int) + n) | 9 => v = .int .i64 n | 10 => v = .int .i64 (((at_ : Int) + n) - n) | 11 => v = .pointer (some ⟨p, 0, none⟩) | 12 => v = .pointer (some ⟨p, 0, none⟩) | 13 => v = .pointer (some ⟨p, 0 + 1, none⟩) | 14 => v = .int .i64 ((at_ : Int) + n) | 15 => RdB W v ((bs.drop at_).take n.toNat) | 16 => OwnB W w4.heap.size v (((bs.drop at_).take n.toNat)) | _ => True) ⟨rfl, rfl, rfl, rfl, rfl, rfl, rfl, rfl, rfl, rfl, rfl, rfl, rfl, rfl, rfl, rfl, rfl, rfl, rfl, rfl, rfl, rfl, rfl, rfl, rfl, rfl, trivial⟩ (by decide) (by decide) rfl ?_ ?_ ?_))
        · intro jj v W W' h k
          match jj, h with
          | 0, h => exact (by obtain ⟨g, h1, h2, h3⟩ := h; exact ⟨g, h1, h2.oC k, h3⟩)
          | 1, h => exact h
          | 2, h => exact h
          | 3, h => exact h
          | 4, h => exact h
          | 5, h => exact h
          | 6, h => exact h
          | 7, h => exact h
          | 8, h => exact h
          | 9, h => exact h
          | 10, h => exact h
          | 11, h => exact h
          | 12, h => exact h
          | 13, h => exact h
          | 14, h => exact h
          | 15, h => exact h.oC k
          | 16, h => exact h.oC k
          | _ + 17, _ => trivial
        · refine ⟨?_, ?_, ?_, ?_, ?_, ?_, ?_, ?_, ?_, ?_, ?_, ?_, ?_, ?_, ?_, ?_, ?_, trivial⟩
          · refine ⟨[], rfl, ?_⟩; rintro W1 hk vs hd
            replace hr := hr.oC hk
            replace hb3 := hb3.oC hk
            replace hB := hB.trans hk.weak
            refine ⟨true, fun a _ => rfl, fun _ => (aa [] trivial ?_), fun h => by cases h⟩
            refine (d_bs0 aA cT rfl).mono ?_
            rintro v W2 ⟨g, h1, h2, h3, k1⟩; exact ⟨k1, g, h1, h3, by have := hk.size; omega⟩
          · refine ⟨[], rfl, ?_⟩; rintro W1 hk vs hd
            replace hr := hr.oC hk
            replace hb3 := hb3.oC hk
            replace hB := hB.trans hk.weak
            refine ⟨true, fun a _ => rfl, fun _ => (aa [(0, _)] ⟨rfl, trivial⟩ ?_), fun h => by cases h⟩
            refine (Gives.does (bC rfl)).mono ?_
            rintro v W2 ⟨rfl, rfl⟩
            exact ⟨Keep.refl _ _, rfl⟩
          · refine ⟨[1], rfl, ?_⟩; rintro W1 hk vs hd
            have d1 : (vs 1) = .pointer (some ⟨p, 0, none⟩) := hd 1 (by decide)
            replace hr := hr.oC hk
            replace hb3 := hb3.oC hk
            replace hB := hB.trans hk.weak
            refine ⟨true, fun a _ => rfl, fun _ => (aa [(35, .pointer (some ⟨p, 0, none⟩))] ⟨congrArg some d1, trivial⟩ ?_), fun h => by cases h⟩
            refine (Gives.does (ao rfl)).mono ?_
            rintro v W2 ⟨rfl, rfl⟩
            exact ⟨Keep.refl _ _, rfl⟩
          · refine ⟨[2], rfl, ?_⟩; rintro W1 hk vs hd
            have d2 : (vs 2) = .pointer (some ⟨p, 0, none⟩) := hd 2 (by decide)
            replace hr := hr.oC hk
            replace hb3 := hb3.oC hk
            replace hB := hB.trans hk.weak
            refine ⟨true, fun a _ => rfl, fun _ => (aa [(36, .pointer (some ⟨p, 0, none⟩))] ⟨congrArg some d2, trivial⟩ ?_), fun h => by cases h⟩
            refine (Gives.does (ak aF rfl am (by decide) rfl)).mono ?_
            rintro v W2 ⟨rfl, rfl⟩
            exact ⟨Keep.refl _ _, rfl⟩
          · refine ⟨[3], rfl, ?_⟩; rintro W1 hk vs hd
            have d3 : (vs 3) = .pointer (some ⟨p, 0 + 0, none⟩) := hd 3 (by decide)
            replace hr := hr.oC hk
            replace hb3 := hb3.oC hk
            replace hB := hB.trans hk.weak
            refine ⟨true, fun a _ => rfl, fun _ => (aa [(37, .pointer (some ⟨p, 0 + 0, none⟩))] ⟨congrArg some d3, trivial⟩ ?_), fun h => by cases h⟩
            refine (Gives.does (ae aw rfl (by assumption) rfl)).mono ?_
            rintro v W2 ⟨rfl, rfl⟩
            exact ⟨Keep.refl _ _, rfl⟩
          · refine ⟨[], rfl, ?_⟩; rintro W1 hk vs hd
            replace hr := hr.oC hk
            replace hb3 := hb3.oC hk
            replace hB := hB.trans hk.weak
            refine ⟨true, fun a _ => rfl, fun _ => (aa [(0, _)] ⟨rfl, trivial⟩ ?_), fun h => by cases h⟩
            refine (Gives.does (bC rfl)).mono ?_
            rintro v W2 ⟨rfl, rfl⟩
            exact ⟨Keep.refl _ _, rfl⟩
          · refine ⟨[5], rfl, ?_⟩; rintro W1 hk vs hd
            have d5 : (vs 5) = .pointer (some ⟨p, 0, none⟩) := hd 5 (by decide)
            replace hr := hr.oC hk
            replace hb3 := hb3.oC hk
            replace hB := hB.trans hk.weak
            refine ⟨true, fun a _ => rfl, fun _ => (aa [(39, .pointer (some ⟨p, 0, none⟩))] ⟨congrArg some d5, trivial⟩ ?_), fun h => by cases h⟩
            refine (Gives.does (ao rfl)).mono ?_
            rintro v W2 ⟨rfl, rfl⟩
            exact ⟨Keep.refl _ _, rfl⟩
          · refine ⟨[6], rfl, ?_⟩; rintro W1 hk vs hd
            have d6 : (vs 6) = .pointer (some ⟨p, 0, none⟩) := hd 6 (by decide)
            replace hr := hr.oC hk
            replace hb3 := hb3.oC hk
            replace hB := hB.trans hk.weak
            refine ⟨true, fun a _ => rfl, fun _ => (aa [(40, .pointer (some ⟨p, 0, none⟩))] ⟨congrArg some d6, trivial⟩ ?_), fun h => by cases h⟩
            refine (Gives.does (ak aF rfl bh (by decide) rfl)).mono ?_
            rintro v W2 ⟨rfl, rfl⟩
            exact ⟨Keep.refl _ _, rfl⟩
          · refine ⟨[7], rfl, ?_⟩; rintro W1 hk vs hd
            have d7 : (vs 7) = .pointer (some ⟨p, 0 + 1, none⟩) := hd 7 (by decide)
            replace hr := hr.oC hk
            replace hb3 := hb3.oC hk
            replace hB := hB.trans hk.weak
            refine ⟨true, fun a _ => rfl, fun _ => (aa [(41, .pointer (some ⟨p, 0 + 1, none⟩))] ⟨congrArg some d7, trivial⟩ ?_), fun h => by cases h⟩
            refine (Gives.does (ae cY rfl (by assumption) rfl)).mono ?_
            rintro v W2 ⟨rfl, rfl⟩
            exact ⟨Keep.refl _ _, rfl⟩
          · refine ⟨[], rfl, ?_⟩; rintro W1 hk vs hd
            replace hr := hr.oC hk
            replace hb3 := hb3.oC hk
            replace hB := hB.trans hk.weak
            refine ⟨true, fun a _ => rfl, fun _ => (aa [(1, _)] ⟨rfl, trivial⟩ ?_), fun h => by cases h⟩
            refine (Gives.does (bC rfl)).mono ?_
            rintro v W2 ⟨rfl, rfl⟩
            exact ⟨Keep.refl _ _, rfl⟩
          · refine ⟨[8, 9], rfl, ?_⟩; rintro W1 hk vs hd
            have d8 : (vs 8) = .int .i64 ((at_ : Int) + n) := hd 8 (by decide)
            have d9 : (vs 9) = .int .i64 n := hd 9 (by decide)
            replace hr := hr.oC hk
            replace hb3 := hb3.oC hk
            replace hB := hB.trans hk.weak
            refine ⟨true, fun a _ => rfl, fun _ => (aa [(42, .int .i64 ((at_ : Int) + n)), (43, .int .i64 n)] ⟨congrArg some d8, congrArg some d9, trivial⟩ ?_), fun h => by cases h⟩
            refine (Gives.does (jK rfl rfl (by omega))).mono ?_
            rintro v W2 ⟨rfl, rfl⟩
            exact ⟨Keep.refl _ _, rfl⟩
          · refine ⟨[], rfl, ?_⟩; rintro W1 hk vs hd
            replace hr := hr.oC hk
            replace hb3 := hb3.oC hk
            replace hB := hB.trans hk.weak
            refine ⟨true, fun a _ => rfl, fun _ => (aa [(0, _)] ⟨rfl, trivial⟩ ?_), fun h => by cases h⟩
            refine (Gives.does (bC rfl)).mono ?_
            rintro v W2 ⟨rfl, rfl⟩
            exact ⟨Keep.refl _ _, rfl⟩
          · refine ⟨[11], rfl, ?_⟩; rintro W1 hk vs hd
            have d11 : (vs 11) = .pointer (some ⟨p, 0, none⟩) := hd 11 (by decide)
            replace hr := hr.oC hk
            replace hb3 := hb3.oC hk
            replace hB := hB.trans hk.weak
            refine ⟨true, fun a _ => rfl, fun _ => (aa [(45, .pointer (some ⟨p, 0, none⟩))] ⟨congrArg some d11, trivial⟩ ?_), fun h => by cases h⟩
            refine (Gives.does (ao rfl)).mono ?_
            rintro v W2 ⟨rfl, rfl⟩
            exact ⟨Keep.refl _ _, rfl⟩
          · refine ⟨[12], rfl, ?_⟩; rintro W1 hk vs hd
            have d12 : (vs 12) = .pointer (some ⟨p, 0, none⟩) := hd 12 (by decide)
            replace hr := hr.oC hk
            replace hb3 := hb3.oC hk
            replace hB := hB.trans hk.weak
            refine ⟨true, fun a _ => rfl, fun _ => (aa [(46, .pointer (some ⟨p, 0, none⟩))] ⟨congrArg some d12, trivial⟩ ?_), fun h => by cases h⟩
            refine (Gives.does (ak aF rfl bh (by decide) rfl)).mono ?_
            rintro v W2 ⟨rfl, rfl⟩
            exact ⟨Keep.refl _ _, rfl⟩
          · refine ⟨[13], rfl, ?_⟩; rintro W1 hk vs hd
            have d13 : (vs 13) = .pointer (some ⟨p, 0 + 1, none⟩) := hd 13 (by decide)
            replace hr := hr.oC hk
            replace hb3 := hb3.oC hk
            replace hB := hB.trans hk.weak
            refine ⟨true, fun a _ => rfl, fun _ => (aa [(47, .pointer (some ⟨p, 0 + 1, none⟩))] ⟨congrArg some d13, trivial⟩ ?_), fun h => by cases h⟩
            refine (Gives.does (ae cY rfl (by assumption) rfl)).mono ?_
            rintro v W2 ⟨rfl, rfl⟩
            exact ⟨Keep.refl _ _, rfl⟩
          · refine ⟨[4, 10, 14], rfl, ?_⟩; rintro W1 hk vs hd
            have d4 : (vs 4) = bw := hd 4 (by decide)
            have d10 : (vs 10) = .int .i64 (((at_ : Int) + n) - n) := hd 10 (by decide)
            have d14 : (vs 14) = .int .i64 ((at_ : Int) + n) := hd 14 (by decide)
            replace hr := hr.oC hk
            replace hb3 := hb3.oC hk
            replace hB := hB.trans hk.weak
            refine ⟨true, fun a _ => rfl, fun _ => (aa [(38, bw), (44, .int .i64 (((at_ : Int) + n) - n)), (48, .int .i64 ((at_ : Int) + n))] ⟨congrArg some d4, congrArg some d10, congrArg some d14, trivial⟩ ?_), fun h => by cases h⟩
            have hct := (show RdB W1 bw bs by assumption).cutB (l := at_) (hi := at_ + n.toNat) (by omega) (by omega)
            rw [show at_ + n.toNat - at_ = n.toNat from by omega] at hct
            refine (Gives.does (go aA cT rfl (show RdB W1 bw bs by assumption) (.inr ⟨_, _, rfl, rfl⟩) (.inr ⟨_, _, rfl, rfl⟩) ⟨by omega, by omega, by omega⟩)).mono ?_
            rintro v W2 ⟨rfl, rfl⟩
            refine ⟨Keep.refl _ _, ?_⟩
            rw [show ((at_ : Int) + n - n).toNat = at_ from by omega, show ((at_ : Int) + n).toNat = at_ + n.toNat from by omega]; exact hct
          · refine ⟨[0, 15], rfl, ?_⟩; rintro W1 hk vs hd
            have d0 : ∃ g, (vs 0) = .slice (some ⟨g, 0, none⟩) 0 0 ∧ Bk W1 g 5 [] ∧ w4.heap.size ≤ g := hd 0 (by decide)
            have d15 : RdB W1 (vs 15) ((bs.drop at_).take n.toNat) := hd 15 (by decide)
            replace hr := hr.oC hk
            replace hb3 := hb3.oC hk
            replace hB := hB.trans hk.weak
            refine ⟨true, fun a _ => rfl, fun _ => (aa [(34, vs 0), (49, vs 15)] ⟨rfl, rfl, trivial⟩ ?_), fun h => by cases h⟩
            obtain ⟨g, h1, h2, h3⟩ := d0
            rw [h1]
            refine (nr aA cT rfl rfl rfl h2 (Nat.le_trans h3 (Nat.le_refl _)) rfl d15 (by rw [List.length_take]; omega)).mono ?_
            rintro v W2 ⟨o1, k1⟩; exact ⟨k1, o1⟩
        rintro w5 k5 vs hv
        have z_k5 := k5.size
        replace hr := hr.oC k5
        replace hb3 := hb3.oC k5
        replace hB := hB.trans k5.weak
        have e50 : OwnB w5 w4.heap.size (vs 16) (((bs.drop at_).take n.toNat)) := hv 16 (by decide) rfl
        refine cv [(50, vs 16), (0, _), (1, _), (4, _), (6, _), (7, _), (8, _), (9, _), (10, _), (5, _), (12, _), (13, _), (11, _), (18, _), (19, _), (20, _), (21, _), (17, _), (25, _), (26, _), (27, _), (28, _), (29, _), (30, _), (31, _), (32, _), (33, _)] ⟨rfl, rfl, rfl, rfl, rfl, rfl, rfl, rfl, rfl, rfl, rfl, rfl, rfl, rfl, rfl, rfl, rfl, rfl, rfl, rfl, rfl, rfl, rfl, rfl, rfl, rfl, rfl, trivial⟩ ?_
        have o1 := e50
        refine oga rfl rfl (a6 (al hfin Try.results89 rfl ?_))
        rw [show ((at_ : Int) + n) = ((at_ + n.toNat : Nat) : Int) from by omega] at hb3
        refine ⟨((bs.drop at_).take n.toNat, (bs.drop at_).drop n.toNat, e), at_ + n.toNat, ?_, o1.lo (by have := hp0; omega), ⟨hb3, hr, hn, by omega, hbl⟩, List.drop_drop, hB⟩
        unfold rTake
        repeat (first | rw [if_pos (by assumption)] | rw [if_neg (by assumption)] | rw [if_pos (by omega)] | rw [if_neg (by omega)])
        all_goals first | rfl | (refine Prod.ext rfl (Prod.ext rfl ?_); show _ = _; dsimp only; omega)
theorem jx {rest : List UInt8} {e e2 : Int} {r1 : Int × List UInt8 × Int} {r2 : List UInt8 × List UInt8 × Int} (h1 : r1 = rLen rest e) (he : r1.2.2 = 0 ∧ 65536 < r1.1 ∧ e2 = 21 ∨ ¬ (r1.2.2 = 0 ∧ 65536 < r1.1) ∧ e2 = r1.2.2) (h2 : r2 = rTake r1.2.1 e2 r1.1) :
   (r2.2.2 ≠ 0 → rVec rest e = ([], rest, r2.2.2)) ∧ (r2.2.2 = 0 → rVec rest e = r2) := by
 by_cases h0 : e = 0
 · subst h0
   rcases he with ⟨a, b, rfl⟩ | ⟨a, rfl⟩
   · exact ⟨fun h => (jy h1 h2 ⟨a, b⟩ h).symm, fun h => (jB h1 h2 ⟨a, b⟩ h).symm⟩
   · have a' : ¬ r1.2.2 = 0 ∨ ¬ 65536 < r1.1 := by omega
     exact ⟨fun h => (jz h1 h2 a' h).symm, fun h => (lc h1 h2 a' h).symm⟩
 · have e1 : rLen rest e = (0, rest, e) := by unfold rLen; rw [if_pos h0]
   rw [e1] at h1; subst h1
   rcases he with ⟨a, _⟩ | ⟨_, h3⟩
   · exact absurd a h0
   · rw [show e2 = e from h3] at h2
     rw [eM _ _ _ h0] at h2; subst h2
     have e2 : rVec rest e = ([], rest, e) := by unfold rVec; rw [if_pos h0]
     exact ⟨fun _ => e2, fun h => absurd h h0⟩
theorem mR (p at_ : Nat) (bs : List UInt8) (bw : Value) (e : Int) (w : World) (h : RdA w p bs bw at_ e) : Rets Try.prog 45 [.pointer (some ⟨p, 0, none⟩)] w (fun v w' => ∃ r a2, r = rVec (bs.drop at_) e ∧ OwnB w' w.heap.size v r.1 ∧ RdA w' p bs bw a2 r.2.2 ∧ r.2.1 = bs.drop a2 ∧ Keep [p] w w') := by
 obtain ⟨hb, hr, hn, hal, hbl⟩ := h
 have hB : Keep [p] w w := Keep.refl _ _
 have hcap := hr.vcap
 have hdl : (bs.drop at_).length = bs.length - at_ := List.length_drop
 have hg0 : gb bs (at_ : Int) = (((bs.drop at_).getD 0 0).toNat : Int) := by unfold gb; rw [List.getD_eq_getElem?_getD, List.getD_eq_getElem?_getD, List.getElem?_drop, Int.toNat_natCast, Nat.add_zero]
 have hp0 := hb.lt
 refine ai Try.func45 rfl (by decide) Try.ntmps45 rfl (fun fin _ hfin => a5 (aZ (oga rfl rfl (a6 (a5 (aZ (ogm rfl rfl (a7 (ao rfl) rfl (a7 (ak aF rfl bh (by decide) rfl) rfl (a7 (ae cY rfl ‹_› rfl) rfl (oga rfl rfl (a6 (a5 (aZ (ogm rfl rfl (ah (ab (vs := [_]) rfl (mS _ at_ _ _ e _ ⟨hb, hr, hn, hal, hbl⟩)) rfl ?_))))))))))))))))
 rintro _ w1 ⟨r1, a1, hr1, rfl, R1, hq1, k1⟩
 replace hB := hB.trans k1
 obtain ⟨hb, hr, _, hala1, _⟩ := R1
 refine oga rfl rfl (a6 (a5 (a5 (aZ (ogm rfl rfl (a7 (ao rfl) rfl (a7 (ak aF rfl bh (by decide) rfl) rfl (a7 (ae cY rfl ‹_› rfl) rfl (a7 (bE rfl rfl) rfl (ogm rfl rfl (aq 17 true rfl (fun c1 hgc1 => a9 [(4, _)] (ad rfl rfl rfl hgc1) ⟨bB rfl, trivial⟩ (fun hw1 => bC rfl) rfl (a9 [(18, _)] (ad rfl rfl rfl hgc1) ⟨ag rfl, trivial⟩ (fun hw2 => dK rfl rfl) rfl (a7 (bM rfl rfl hgc1) rfl (a6 (bD rfl (fun hc1 => ?_) (fun hc1 => ?_)))))))))))))))))
 ·
  have hd1 := hc1
  try (simp only [Bool.and_eq_true, Bool.or_eq_true, decide_eq_true_eq, Bool.and_eq_false_iff, Bool.or_eq_false_iff, decide_eq_false_iff_not, Bool.not_eq_true', Bool.not_eq_false', Bool.not_eq_true, Bool.not_eq_false, ne_eq, Decidable.not_not, decide_true, decide_false, Bool.true_and, Bool.false_and, Bool.or_false, Bool.false_or, not_true_eq_false, false_or, or_false, true_and, and_true, not_false_eq_true, reduceCtorEq] at hd1)
  refine aZ (ogm rfl rfl (a7 (ao rfl) rfl (a7 (ak aF rfl bh (by decide) rfl) rfl (an (bV bh rfl rfl rfl hb rfl) ?_))))
  rintro _ w2 ⟨hb1, k2, z1⟩
  have z_k2 := k2.size
  replace hr := hr.keep k2 (fun x hx hm => Nat.ne_of_lt (hn x hx) (List.mem_singleton.1 hm))
  replace hB := hB.trans k2
  refine a6 (a5 (aZ (ogm rfl rfl (ogm rfl rfl ?_))))
  have hs1 := hB.size
  refine ah (ab (vs := [_, _]) rfl (iF _ a1 _ _ (21) r1.1 _ ⟨hb1, hr, hn, hala1, hbl⟩)) rfl ?_
  rintro v1 w3 ⟨r2, a2, hr2, o1, R2, hq2, k3⟩
  replace hB := hB.trans k3
  obtain ⟨hb, hr, _, hala2, _⟩ := R2
  have u_o1 := o1.blk
  rw [← hq1] at hr2
  have hgen := jx hr1 (e2 := 21) (by first | exact Or.inl ⟨hd1.1, hd1.2, rfl⟩ | (refine Or.inr ⟨?_, rfl⟩; omega)) hr2
  refine oga rfl rfl (a6 (a5 (a5 (aZ (ogm rfl rfl (a7 (ao rfl) rfl (a7 (ak aF rfl bh (by decide) rfl) rfl (a7 (ae cY rfl ‹_› rfl) rfl (a7 (bn rfl rfl) rfl (a6 (bF rfl (fun hc2 => ?_) (fun hc2 => ?_))))))))))))
  ·
   refine a5 (aZ (ogm rfl rfl (ogm rfl rfl (a7 (ao rfl) rfl (a7 (ak aF rfl bh (by decide) rfl) rfl (an (bV bh rfl rfl rfl hb rfl) ?_))))))
   rintro _ w4 ⟨hb2, k4, z2⟩
   have z_k4 := k4.size
   replace hr := hr.keep k4 (fun x hx hm => Nat.ne_of_lt (hn x hx) (List.mem_singleton.1 hm))
   replace o1 := o1.keep k4 (fun x hx hm => by have h1 := u_o1 x hx; have h2 := List.mem_singleton.1 hm; omega)
   replace hB := hB.trans k4
   refine a6 (a5 (aZ (oga rfl rfl (a6 (al hfin Try.results45 rfl ?_)))))
   exact ⟨([], bs.drop at_, r2.2.2), at_, (hgen.1 ‹_›).symm, a8 _ _ _ _, ⟨hb2, hr, hn, hal, hbl⟩, rfl, hB⟩
  ·
   refine aj (a5 (aZ (ogm rfl rfl (oga rfl rfl (a6 (al hfin Try.results45 rfl ?_))))))
   exact ⟨r2, a2, (hgen.2 (by omega)).symm, o1.lo hs1, ⟨hb, hr, hn, hala2, hbl⟩, hq2, hB⟩
 ·
  have hd2 := hc1
  try (simp only [Bool.and_eq_true, Bool.or_eq_true, decide_eq_true_eq, Bool.and_eq_false_iff, Bool.or_eq_false_iff, decide_eq_false_iff_not, Bool.not_eq_true', Bool.not_eq_false', Bool.not_eq_true, Bool.not_eq_false, ne_eq, Decidable.not_not, decide_true, decide_false, Bool.true_and, Bool.false_and, Bool.or_false, Bool.false_or, not_true_eq_false, false_or, or_false, true_and, and_true, not_false_eq_true, reduceCtorEq] at hd2)
  refine aj (a5 (aZ (ogm rfl rfl (ogm rfl rfl ?_))))
  have hs1 := hB.size
  refine ah (ab (vs := [_, _]) rfl (iF _ a1 _ _ (r1.2.2) r1.1 _ ⟨hb, hr, hn, hala1, hbl⟩)) rfl ?_
  rintro v2 w5 ⟨r2, a2, hr2, o2, R3, hq2, k5⟩
  replace hB := hB.trans k5
  obtain ⟨hb, hr, _, hala2, _⟩ := R3
  have u_o2 := o2.blk
  rw [← hq1] at hr2
  have hgen := jx hr1 (e2 := r1.2.2) (by first | exact Or.inl ⟨hd1.1, hd1.2, rfl⟩ | (refine Or.inr ⟨?_, rfl⟩; omega)) hr2
  refine oga rfl rfl (a6 (a5 (a5 (aZ (ogm rfl rfl (a7 (ao rfl) rfl (a7 (ak aF rfl bh (by decide) rfl) rfl (a7 (ae cY rfl ‹_› rfl) rfl (a7 (bn rfl rfl) rfl (a6 (bF rfl (fun hc3 => ?_) (fun hc3 => ?_))))))))))))
  ·
   refine a5 (aZ (ogm rfl rfl (ogm rfl rfl (a7 (ao rfl) rfl (a7 (ak aF rfl bh (by decide) rfl) rfl (an (bV bh rfl rfl rfl hb rfl) ?_))))))
   rintro _ w6 ⟨hb3, k6, z3⟩
   have z_k6 := k6.size
   replace hr := hr.keep k6 (fun x hx hm => Nat.ne_of_lt (hn x hx) (List.mem_singleton.1 hm))
   replace o2 := o2.keep k6 (fun x hx hm => by have h1 := u_o2 x hx; have h2 := List.mem_singleton.1 hm; omega)
   replace hB := hB.trans k6
   refine a6 (a5 (aZ (oga rfl rfl (a6 (al hfin Try.results45 rfl ?_)))))
   exact ⟨([], bs.drop at_, r2.2.2), at_, (hgen.1 ‹_›).symm, a8 _ _ _ _, ⟨hb3, hr, hn, hal, hbl⟩, rfl, hB⟩
  ·
   refine aj (a5 (aZ (ogm rfl rfl (oga rfl rfl (a6 (al hfin Try.results45 rfl ?_))))))
   exact ⟨r2, a2, (hgen.2 (by omega)).symm, o2.lo hs1, ⟨hb, hr, hn, hala2, hbl⟩, hq2, hB⟩
theorem bY (p : Nat) (rest : List UInt8) (e : Int) (w : World) (h : RdR w p rest e) : Rets Try.prog 45 [.pointer (some ⟨p, 0, none⟩)] w (fun v w' => ∃ r, r = rVec rest e ∧ OwnB w' w.heap.size v r.1 ∧ RdR w' p r.2.1 r.2.2 ∧ Keep [p] w w') := by
  obtain ⟨bs, bw, a, rfl, hA⟩ := h.rdA
  refine (mR p a bs bw e w hA).mono fun v w' ⟨r, a2, h1, h2, h3, h4, h5⟩ => ⟨r, h1, h2, ?_, h5⟩
  rw [h4]; exact h3.rdR
end Go.Proofs.Ytonchmcppekldaa.W
namespace Go.Eng
open Go Go.IntWalk
def ivF (k : IntKind) (f : Nat → Int) : Nat → Nat → List Value
 | _, 0 => []
 | i, n + 1 => .int k (f i) :: ivF k f (i + 1) n
abbrev iv (k : IntKind) (n : Nat) (f : Nat → Int) : List Value := ivF k f 0 n
@[simp] theorem lT (k : IntKind) (f : Nat → Int) : ∀ (n i : Nat), (ivF k f i n).length = n
 | 0, _ => rfl
 | n + 1, i => by simp [ivF, lT k f n]
def In (x lo hi : Int) : Prop := lo ≤ x ∧ x ≤ hi
def Le (a b : Int) : Prop := a ≤ b
instance (a b : Int) : Decidable (Le a b) := inferInstanceAs (Decidable (a ≤ b))
instance (x lo hi : Int) : Decidable (In x lo hi) := inferInstanceAs (Decidable (lo ≤ x ∧ x ≤ hi))
section
variable {P : Program} {n : NN} {f : Fr} {w : World} {ty : TypeId} {fin : Exit → Act → World → Prop} {k : List KI} {ops : Array Oper} {l : List Oper}
end
end Go.Eng
namespace Go.Eng
open Go
theorem iv4 {w : World} {b : Nat} {T : TypeId} {k : IntKind} {g : Nat → Int} (h : Bk w b T (iv k 4 g)) : Bk w b T [.int k (g 0), .int k (g 1), .int k (g 2), .int k (g 3)] := h
theorem iv5 {w : World} {b : Nat} {T : TypeId} {k : IntKind} {g : Nat → Int} (h : Bk w b T (iv k 5 g)) : Bk w b T [.int k (g 0), .int k (g 1), .int k (g 2), .int k (g 3), .int k (g 4)] := h
theorem iv8 {w : World} {b : Nat} {T : TypeId} {k : IntKind} {g : Nat → Int} (h : Bk w b T (iv k 8 g)) : Bk w b T [.int k (g 0), .int k (g 1), .int k (g 2), .int k (g 3), .int k (g 4), .int k (g 5), .int k (g 6), .int k (g 7)] := h
theorem iv20 {w : World} {b : Nat} {T : TypeId} {k : IntKind} {g : Nat → Int} (h : Bk w b T (iv k 20 g)) : Bk w b T [.int k (g 0), .int k (g 1), .int k (g 2), .int k (g 3), .int k (g 4), .int k (g 5), .int k (g 6), .int k (g 7), .int k (g 8), .int k (g 9), .int k (g 10), .int k (g 11), .int k (g 12), .int k (g 13), .int k (g 14), .int k (g 15), .int k (g 16), .int k (g 17), .int k (g 18), .int k (g 19)] := h
end Go.Eng
namespace Go.Eng
open Go Go.IntWalk
section
variable {P : Program} {n : NN} {f : Fr} {w : World} {ty : TypeId} {fin : Exit → Act → World → Prop} {k : List KI} {ops : Array Oper} {tl l : List Oper}
def SW (P : Program) (fin : Exit → Act → World → Prop) (n : NN) (k : List KI) (ops : Array Oper) (tl : List Oper) (l : List Oper) (f : Fr) (w : World) : Prop :=
 ∀ a, Kn n f a → wpStill P ops w (fun a' => wpList P ops (KQ P fin k) tl a' w) l a
theorem mx {id : Nat} {l : List Oper} (m : Nat) (hm : P.follows .mixedOrders = true) (hB : Region.lexTailB .any l.toArray m = true)
   (h : ∀ w1, Keep [] w w1 → SW P fin n k l.toArray (l.drop m) (l.take m) f w1) : TW P fin n (.c (.region id l.toArray true) :: k) f w :=
 fun a ha => wp_region_still_tail m hm hB (h _ (bt w) a ha)
theorem mE {id : Nat} {l : List Oper} (hm : P.follows .mixedOrders = true) (hB : Region.lexB .any l.toArray = true)
   (h : ∀ w1, Keep [] w w1 → SW P fin n k l.toArray [] l f w1) : TW P fin n (.c (.region id l.toArray true) :: k) f w :=
 fun a ha => wp_region_still_lit hm hB (h _ (bt w) a ha)
theorem nC (h : OW P fin n k ops tl f w) : SW P fin n k ops tl [] f w := fun a ha => wpStill_nil (h a ha)
theorem iC {op : Op} {d : Nat} {pos : String} {aft : Array Edge} {v : Value} (hr : Gives P n f w op ty v w) (hd : Nat.blt d n = true)
   (h : SW P fin n k ops tl l ((d, v) :: f) w) : SW P fin n k ops tl (⟨some d, op, ty, pos, aft, none⟩ :: l) f w := by
 intro a ha
 refine wpStill_step fun K hK => ?_
 rw [if_pos (by simp [Region.wanted])]
 unfold Oper.still
 rw [hr a ha, Oper.stillUpon_value]
 exact hK _ (h _ (ha.put (bp hd) v))
theorem sw_grp (d : Nat) (want : Bool) {b : Bool} (_hf : f.get d = some (.bool b)) (h : ∀ c, c = (b == want) → SW P fin n k ops tl l f w) : SW P fin n k ops tl l f w := h _ rfl
theorem fH (f1 : Fr) {op : Op} {d : Nat} {pos : String} {aft : Array Edge} {j : Nat} {want c : Bool} {v : Value} (hG : Grd n ops f j want c) (hs : UndF c f1 f) (hr : c = true → Gives P n f1 w op ty v w) (hd : Nat.blt d n = true)
   (h : SW P fin n k ops tl l ((d, gv c v) :: f) w) : SW P fin n k ops tl (⟨some d, op, ty, pos, aft, some (j, want)⟩ :: l) f w := by
 intro a ha
 have hg := hG a ha
 refine wpStill_step fun K hK => ?_
 have hwt : Region.wanted ⟨some d, op, ty, pos, aft, some (j, want)⟩ (yielded ops a.tmps) = c := hg
 rw [hwt]
 have h' := h _ (ha.put (bp hd) (gv c v))
 cases hc : c with
 | true =>
   rw [if_pos rfl]
   unfold Oper.still
   rw [hr hc a (ha.undF hc hs), Oper.stillUpon_value]
   rw [dc hc] at h'
   exact hK _ h'
 | false =>
   rw [if_neg (by simp)]
   rw [eS hc] at h'
   exact hK _ h'
end
end Go.Eng
namespace Go.Eng
open Go Go.IntWalk
section
variable {P : Program} {n : NN}
def PStep (P : Program) (n : NN) (ops : Array Oper) (o : Oper) (f1 : Fr) (w : World) (R : Value → World → Prop) : Prop :=
 ∀ a, Kn n f1 a → ∀ (K : Act → World → Prop) (Q : Exit → Act → World → Prop), (∀ v w', R v w' → K (a.put o.dst v) w') →
   (Region.wanted o (yielded ops a.tmps) = true → Oper.wp P o a w K Q) ∧ (Region.wanted o (yielded ops a.tmps) = false → K (a.put o.dst undef) w)
def depB (l : List Oper) (i j : Nat) : Bool := match l[i]? with
 | none => false
 | some o => o.after.toList.any fun e => e.on == j && Region.binds .any e
def slotsOk (l : List Oper) (p i : Nat) (f1 : Fr) : Bool :=
 f1.all fun q => (List.range p).all (fun j => !hasDst l j || dstOf l j != q.1) || (List.range p).any (fun j => depB l i j && (hasDst l j && dstOf l j == q.1))
def eager (l : List Oper) (cb : Nat → Bool) : List Nat → Bool
 | [] => true
 | c :: r => !r.contains c && (!cb c || r.all fun i => (c :: r).any fun j => depB l i j) && eager l cb r
def planOk (n : Nat) (l : List Oper) (p : Nat) (plan : List Nat) (cb : Nat → Bool) : Bool :=
 drawOk n l && tailOk l p && plan.all (fun i => Nat.blt i p && hasDst l i) && (List.range p).all (fun i => plan.contains i) && eager l cb plan
def PW (P : Program) (n : NN) (l : List Oper) (p : Nat) (T : List Nat) (cb : Nat → Bool) (Fin : Fr → World → Prop) : List Nat → Fr → World → Prop
 | [], f, w => Fin f w
 | i :: r, f, w => ∃ o f1, l[i]? = some o ∧ Fr.sub f1 f ∧ slotsOk l p i f1 = true ∧
   ((cb i = true ∧ PStep P n l.toArray o f1 w (fun v w' => Keep T w w' ∧ PW P n l p T cb Fin r ((dstOf l i, v) :: f) w')) ∨
    (cb i = false ∧ ∃ v, (∀ w', Keep T w w' → PStep P n l.toArray o f1 w' (fun v' w'' => v' = v ∧ w'' = w')) ∧ PW P n l p T cb Fin r ((dstOf l i, v) :: f) w))
theorem PStep.mono {ops : Array Oper} {o : Oper} {f1 : Fr} {w : World} {R R' : Value → World → Prop} (h : PStep P n ops o f1 w R) (hr : ∀ v w', R v w' → R' v w') : PStep P n ops o f1 w R' :=
 fun a ha K Q hK => h a ha K Q (fun v w' hv => hK v w' (hr v w' hv))
theorem jS : ∀ {f1 f : Fr}, Fr.sub f1 f → ∀ t u, f1.get t = some u → f.get t = some u
 | [], _, _, t, u, h => by cases h
 | (k, v) :: r, f, ⟨h1, h2⟩, t, u, h => by
   simp only [Fr.get] at h
   by_cases e : Nat.beq k t = true
   · rw [e] at h
     simp only [cond_true, Option.some.injEq] at h
     have e' : k = t := Nat.eq_of_beq_eq_true e
     subst e' h; exact h1
   · have e' : Nat.beq k t = false := eq_false_of_ne_true e
     rw [e'] at h
     exact jS h2 t u h
theorem jb : ∀ {f1 : Fr} {t : Nat} {u : Value}, f1.get t = some u → ∃ q, q ∈ f1 ∧ q.1 = t
 | [], t, u, h => by cases h
 | (k, v) :: r, t, u, h => by
   simp only [Fr.get] at h
   by_cases e : Nat.beq k t = true
   · exact ⟨(k, v), by simp, Nat.eq_of_beq_eq_true e⟩
   · have e' : Nat.beq k t = false := eq_false_of_ne_true e
     rw [e'] at h
     obtain ⟨q, hq, hq'⟩ := jb (f1 := r) h
     exact ⟨q, by simp [hq], hq'⟩
theorem ln {l : List Oper} {vs : Nat → Value} {f0 : Fr} : ∀ {pre : List Nat} {t : Nat} {u : Value}, (depFr l vs pre ++ f0).get t = some u → (∃ j, j ∈ pre ∧ dstOf l j = t ∧ vs j = u) ∨ f0.get t = some u
 | [], t, u, h => .inr h
 | j :: r, t, u, h => by
   simp only [depFr, List.cons_append, Fr.get] at h
   by_cases e : Nat.beq (dstOf l j) t = true
   · rw [e] at h
     simp only [cond_true, Option.some.injEq] at h
     exact .inl ⟨j, by simp, Nat.eq_of_beq_eq_true e, h⟩
   · have e' : Nat.beq (dstOf l j) t = false := eq_false_of_ne_true e
     rw [e'] at h
     rcases ln (pre := r) h with ⟨i, hi, h1, h2⟩ | h1
     · exact .inl ⟨i, by simp [hi], h1, h2⟩
     · exact .inr h1
theorem cW {l : List Oper} {cb : Nat → Bool} : ∀ {pre rest : List Nat}, eager l cb (pre ++ rest) = true → eager l cb rest = true ∧ (∀ i, i ∈ pre → i ∉ rest)
 | [], _, h => ⟨h, fun i hi => by cases hi⟩
 | c :: r, rest, h => by
   simp only [List.cons_append, eager, Bool.and_eq_true] at h
   obtain ⟨h1, h2⟩ := cW (pre := r) h.2
   refine ⟨h1, fun i hi hm => ?_⟩
   rcases List.mem_cons.1 hi with rfl | hi
   · have := h.1.1
     simp [hm] at this
   · exact h2 i hi hm
theorem cr {l : List Oper} (hok : drawOk n l = true) {i j : Nat} (hi : i < l.length) (hj : j < l.length) (hdi : hasDst l i = true) (hdj : hasDst l j = true) (he : dstOf l i = dstOf l j) : i = j := by
 have h1 := List.all_eq_true.1 hok i (List.mem_range.2 hi)
 have hget : l[i]? = some l[i] := List.getElem?_eq_getElem hi
 simp only [hget, Bool.and_eq_true] at h1
 have h2 := h1.2
 have hs : l[i].dst.isSome = true := by
   unfold hasDst at hdi; rw [hget] at hdi; simpa using hdi
 rw [hs, Bool.not_true, Bool.false_or] at h2
 have h3 := List.all_eq_true.1 h2 j (List.mem_range.2 hj)
 simp only [Bool.or_eq_true, beq_iff_eq, bne_iff_ne, ne_eq, Bool.not_eq_true'] at h3
 rcases h3 with (h3 | h3) | h3
 · exact h3
 · exact absurd he h3
 · rw [hdj] at h3; cases h3
section
variable {l : List Oper} {p : Nat} {T : List Nat} {cb : Nat → Bool} {Fin : Fr → World → Prop} {f0 : Fr}
def Lk (l : List Oper) (f0 : Fr) (pre : List Nat) (vs : Nat → Value) (i : Nat) (f1 : Fr) : Prop :=
 ∀ t u, f1.get t = some u → (∃ j, j ∈ pre ∧ depB l i j = true ∧ dstOf l j = t ∧ vs j = u) ∨ f0.get t = some u
theorem lk_of {n : NN} (hok : drawOk n l = true) (hpl : p ≤ l.length) {pre : List Nat} {vs : Nat → Value} {i : Nat} {f1 : Fr} (hpre : ∀ j, j ∈ pre → j < p ∧ hasDst l j = true) (hs : Fr.sub f1 (depFr l vs pre.reverse ++ f0)) (h : slotsOk l p i f1 = true) : Lk l f0 pre vs i f1 := by
 intro t u ht
 rcases ln (jS hs t u ht) with ⟨j, hj, h1, h2⟩ | h1
 · have hj' : j ∈ pre := by simpa using hj
   obtain ⟨q, hq, hq'⟩ := jb ht
   have h3 := List.all_eq_true.1 h q hq
   simp only [Bool.or_eq_true] at h3
   rcases h3 with h3 | h3
   · have h4 := List.all_eq_true.1 h3 j (List.mem_range.2 (hpre j hj').1)
     rw [(hpre j hj').2, hq'] at h4
     simp [h1] at h4
   · obtain ⟨j', hj1, h5⟩ := List.any_eq_true.1 h3
     simp only [Bool.and_eq_true, beq_iff_eq] at h5
     have hlt := List.mem_range.1 hj1
     have : j = j' := cr hok (Nat.lt_of_lt_of_le (hpre j hj').1 hpl) (Nat.lt_of_lt_of_le hlt hpl) (hpre j hj').2 h5.2.1 (by rw [h1, h5.2.2, hq'])
     subst this
     exact .inl ⟨j, hj', h5.1, h1, h2⟩
 · exact .inr h1
def RdOk (P : Program) (n : NN) (l : List Oper) (T : List Nat) (f0 : Fr) (pre : List Nat) (vs : Nat → Value) (w : World) (i : Nat) : Prop :=
 ∃ o f1, l[i]? = some o ∧ Lk l f0 pre vs i f1 ∧ ∀ w', Keep T w w' → PStep P n l.toArray o f1 w' (fun v' w'' => v' = vs i ∧ w'' = w')
theorem Lk.mono {pre pre' : List Nat} {vs vs' : Nat → Value} {i : Nat} {f1 : Fr} (h : Lk l f0 pre vs i f1) (hm : ∀ j, j ∈ pre → j ∈ pre' ∧ vs' j = vs j) : Lk l f0 pre' vs' i f1 := by
 intro t u ht
 rcases h t u ht with ⟨j, h1, h2, h3, h4⟩ | h1
 · exact .inl ⟨j, (hm j h1).1, h2, h3, by rw [(hm j h1).2, h4]⟩
 · exact .inr h1
theorem RdOk.mono {pre pre' : List Nat} {vs vs' : Nat → Value} {w w' : World} {i : Nat} (h : RdOk P n l T f0 pre vs w i) (hi : i ∈ pre) (hm : ∀ j, j ∈ pre → j ∈ pre' ∧ vs' j = vs j) (hk : Keep T w w') : RdOk P n l T f0 pre' vs' w' i := by
 obtain ⟨o, f1, h1, h2, h3⟩ := h
 refine ⟨o, f1, h1, h2.mono hm, fun w2 hk2 => ?_⟩
 rw [(hm i hi).2]
 exact h3 w2 (hk.trans hk2)
def setV (vs : Nat → Value) (i : Nat) (v : Value) : Nat → Value := fun j => bif Nat.beq j i then v else vs j
theorem dA (vs : Nat → Value) (i : Nat) (v : Value) : setV vs i v i = v := by simp [setV]
theorem dM (vs : Nat → Value) {i j : Nat} (v : Value) (h : j ≠ i) : setV vs i v j = vs j := by
 unfold setV
 cases hb : Nat.beq j i with
 | false => rfl
 | true => exact absurd (Nat.eq_of_beq_eq_true hb) h
theorem fq {vs : Nat → Value} {i : Nat} {v : Value} : ∀ {pre : List Nat}, i ∉ pre → depFr l (setV vs i v) pre = depFr l vs pre
 | [], _ => rfl
 | j :: r, h => by
   simp only [depFr]
   rw [dM vs v (fun e => h (by simp [e])), fq (pre := r) (fun hm => h (by simp [hm]))]
theorem absorb {n : NN} (hok : drawOk n l = true) (hpl : p ≤ l.length) : ∀ (rest pre : List Nat) (vs : Nat → Value) (w : World), eager l cb (pre ++ rest) = true → (∀ j, j ∈ pre ++ rest → j < p ∧ hasDst l j = true) → PW P n l p T cb Fin rest (depFr l vs pre.reverse ++ f0) w →
   (∀ i, i ∈ pre → cb i = false → RdOk P n l T f0 pre vs w i) → ∃ pre' rest' vs', pre ++ rest = pre' ++ rest' ∧ (∀ i, i ∈ pre → i ∈ pre' ∧ vs' i = vs i) ∧ (∀ i, i ∈ pre' → i ∈ pre ∨ cb i = false) ∧ (∀ c r, rest' = c :: r → cb c = true) ∧
     PW P n l p T cb Fin rest' (depFr l vs' pre'.reverse ++ f0) w ∧ ∀ i, i ∈ pre' → cb i = false → RdOk P n l T f0 pre' vs' w i
 | [], pre, vs, w, _, _, h, hr => ⟨pre, [], vs, rfl, fun i hi => ⟨hi, rfl⟩, fun i hi => .inl hi, (fun c r h => by cases h), h, hr⟩
 | i :: r, pre, vs, w, he, hb, h, hr => by
   have h0 := h
   unfold PW at h
   obtain ⟨o, f1, h1, h2, h3, h4⟩ := h
   rcases h4 with ⟨hc, _⟩ | ⟨hc, v, h5, h6⟩
   · exact ⟨pre, i :: r, vs, rfl, fun i hi => ⟨hi, rfl⟩, fun i hi => .inl hi, (fun c r h => by cases h; exact hc), h0, hr⟩
   · have hni : i ∉ pre := fun hm => (cW he).2 i hm (by simp)
     have hlk := lk_of (f0 := f0) hok hpl (fun j hj => hb j (by simp [hj])) h2 h3
     have hm : ∀ j, j ∈ pre → j ∈ pre ++ [i] ∧ setV vs i v j = vs j := fun j hj => ⟨by simp [hj], dM vs v (fun e => hni (e ▸ hj))⟩
     have hnr : i ∉ pre.reverse := by simpa using hni
     obtain ⟨pre', rest', vs', k1, k2, k3, k4, k5, k6⟩ := absorb hok hpl r (pre ++ [i]) (setV vs i v) w (by simpa using he) (by simpa using hb)
       (by rw [List.reverse_append, List.reverse_singleton, List.singleton_append, depFr, dA, fq hnr]; exact h6)
       (fun j hj hcj => by
         rcases List.mem_append.1 hj with h | h
         · exact (hr j h hcj).mono h hm (Keep.refl _ _)
         · rw [List.mem_singleton] at h
           subst h
           refine ⟨o, f1, h1, hlk.mono hm, fun w2 hk2 => ?_⟩
           rw [dA]; exact h5 w2 hk2)
     refine ⟨pre', rest', vs', by simpa using k1, fun j hj => ?_, fun j hj => ?_, k4, k5, k6⟩
     · obtain ⟨q1, q2⟩ := k2 j (hm j hj).1
       exact ⟨q1, q2.trans (hm j hj).2⟩
     · rcases k3 j hj with h | h
       · rcases List.mem_append.1 h with h | h
         · exact .inl h
         · rw [List.mem_singleton] at h; subst h; exact .inr hc
       · exact .inr h
theorem kn_lk {pre : List Nat} {vs : Nat → Value} {i : Nat} {f1 : Fr} {a : Act} (hk : Kn n f0 a) (hl : Lk l f0 pre vs i f1) (hd : ∀ j, depB l i j = true → j ∈ pre → a.tmps.getD (dstOf l j) undef = vs j) : Kn n f1 a := by
 refine ⟨hk.size, hk.defers, fun t u ht => ?_⟩
 rcases hl t u ht with ⟨j, h1, h2, h3, h4⟩ | h1
 · rw [← h3, ← h4]; exact hd j h2 h1
 · exact hk.get t u h1
end
variable {fin : Exit → Act → World → Prop} {k : List KI} {f : Fr} {w : World}
theorem jR {id : Nat} {l : List Oper} (p : Nat) (plan : List Nat) (cs : List Nat) (T : List Nat) (hm : P.follows .mixedOrders = true) (f0 : Fr) (hf : Fr.sub f0 f) (hok : planOk n l p plan (fun i => cs.contains i) = true) (hfree0 : freeOk (l.take p) f0 = true)
    (h : ∀ w1, Keep [] w w1 → PW P n l p T (fun i => cs.contains i) (fun f' w' => OW P fin n k l.toArray (l.drop p) f' w') plan f0 w1) :
    TW P fin n (.c (.region id l.toArray true) :: k) f w := by
  intro a ha
  simp only [KQ]
  have ha0 := ha.sub hf
  simp only [planOk, Bool.and_eq_true] at hok
  obtain ⟨⟨⟨⟨hdr, ht⟩, hall⟩, hcov⟩, heag⟩ := hok
  have hpl : p ≤ l.length := by simp only [tailOk, Bool.and_eq_true] at ht; exact Nat.le_of_ble_eq_true ht.1
  have hplan : ∀ j, j ∈ plan → j < p ∧ hasDst l j = true := by
    intro j hj
    have := List.all_eq_true.1 hall j hj
    simp only [Bool.and_eq_true] at this
    exact ⟨bp this.1, this.2⟩
  have hmem : ∀ j, j < p → j ∈ plan := by
    intro j hj
    have := List.all_eq_true.1 hcov j (List.mem_range.2 hj)
    simpa using this
  have hfree : ∀ i, i < p → hasDst l i = true → f0.get (dstOf l i) = none := by
    intro i hi hd
    have e1 : dstOf (l.take p) i = dstOf l i := by unfold dstOf; rw [List.getElem?_take, if_pos hi]
    have e2 : hasDst (l.take p) i = hasDst l i := by unfold hasDst; rw [List.getElem?_take, if_pos hi]
    rw [← e1]
    exact bu (l := l.take p) (by rw [List.length_take]; omega) (by rw [e2]; exact hd) hfree0
  refine wp_region_any hm ?_
  have key : ∀ (fuel : Nat) (listed : Array Bool) (a : Act) (w' : World), listed.size = l.length → left l.length listed ≤ fuel → Kn n f0 a → (∀ i, p ≤ i → i < l.length → listed.getD i false = false) → (∀ i, listed.getD i false = true → i < p) →
      (∃ pre rest vs, plan = pre ++ rest ∧ (∀ c r, rest = c :: r → cs.contains c = true) ∧ PW P n l p T (fun i => cs.contains i) (fun f' w' => OW P fin n k l.toArray (l.drop p) f' w') rest (depFr l vs pre.reverse ++ f0) w' ∧
        (∀ i, i ∈ pre → cs.contains i = false → RdOk P n l T f0 pre vs w' i) ∧ (∀ i, i ∈ pre → cs.contains i = true → listed.getD i false = true) ∧ (∀ i, listed.getD i false = true → i ∈ pre ∧ a.tmps.getD (dstOf l i) undef = vs i)) →
      wpAny P .any l.toArray (KQ P fin k) fuel listed a w' := by
    intro fuel
    induction fuel with
    | zero =>
      intro listed a w' hs hle hk hun hlp hst
      have hlist : ∀ i, i < l.length → listed.getD i false = true := by
        intro i hi
        cases hc : listed.getD i false with
        | true => rfl
        | false =>
          exfalso
          have := cc hi hs (by rw [bR hs hi true false]; exact hc)
          omega
      have hpe : p = l.length := by
        rcases Nat.lt_or_ge p l.length with h1 | h1
        · have := hun p (Nat.le_refl _) h1; rw [hlist p h1] at this; cases this
        · omega
      obtain ⟨pre, rest, vs, h1, h2, h3, h4, h5, h6⟩ := hst
      have hrest : rest = [] := by
        cases rest with
        | nil => rfl
        | cons c r =>
          exfalso
          have hc := hplan c (by rw [h1]; simp)
          have := (h6 c (hlist c (by omega))).1
          exact (cW (pre := pre) (h1 ▸ heag)).2 c this (by simp)
      subst hrest
      refine f9 hdr ht 0 p 0 listed a w' (by omega) hpl (Nat.le_refl _) (Nat.le_refl _) hs (fun i hi => by rw [hlist i hi]; simp; omega) ?_
      refine h3 a (Kn.app ?_ hk)
      intro q hq
      obtain ⟨j, hj, rfl⟩ := cR hq
      have hj' : j ∈ pre := by simpa using hj
      exact (h6 j (hlist j (by have := (hplan j (by rw [h1]; simp [hj'])).1; omega))).2
    | succ fuel ih =>
      intro listed a w' hs hle hk hun hlp hst
      obtain ⟨pre, rest, vs, h1, h2, h3, h4, h5, h6⟩ := hst
      by_cases hfull : ∀ i, i < p → listed.getD i false = true
      · have hrest : rest = [] := by
          cases rest with
          | nil => rfl
          | cons c r =>
            exfalso
            have hc := hplan c (by rw [h1]; simp)
            have := (h6 c (hfull c hc.1)).1
            exact (cW (pre := pre) (h1 ▸ heag)).2 c this (by simp)
        subst hrest
        refine f9 hdr ht (l.length - p) p (fuel + 1) listed a w' rfl hpl (Nat.le_refl _) ?_ hs (fun i hi => ?_) ?_
        · refine Nat.le_trans ?_ hle
          unfold left
          have e1 : l.length - p = ((List.range' p (l.length - p)).countP fun i => !listed.getD i true) := by
            rw [List.countP_eq_length.2 (fun i hi => ?_)]
            · simp
            · rw [List.mem_range'_1] at hi
              rw [bR hs (by omega) true false, hun i (by omega) (by omega)]; rfl
          rw [e1]
          have e2 : List.range l.length = List.range p ++ List.range' p (l.length - p) := by
            have e3 := List.range'_append_1 (s := 0) (m := p) (n := l.length - p)
            rw [Nat.zero_add] at e3
            rw [List.range_eq_range', List.range_eq_range', e3]; congr 1; omega
          rw [e2, List.countP_append]; omega
        · by_cases hip : i < p
          · rw [hfull i hip]; simp [hip]
          · rw [hun i (by omega) hi]; simp [hip]
        · refine h3 a (Kn.app ?_ hk)
          intro q hq
          obtain ⟨j, hj, rfl⟩ := cR hq
          have hj' : j ∈ pre := by simpa using hj
          exact (h6 j (hfull j (hplan j (by rw [h1]; simp [hj'])).1)).2
      · obtain ⟨q, hq⟩ := Classical.not_forall.1 hfull
        obtain ⟨hq1, hq2⟩ := Classical.not_imp.1 hq
        have hq2 : listed.getD q false = false := eq_false_of_ne_true hq2
        refine ⟨fun hr => (by
          have := dP hdr rfl hs hr q (by omega)
          rw [hq2] at this; cases this), fun i hi => ?_⟩
        obtain ⟨h0, o, ho, hedge⟩ := mem_ready.1 hi
        have ho' : l[i]? = some o := by simpa using ho
        have hlt : i < l.length := (List.getElem?_eq_some_iff.1 ho').1
        have hdepl : ∀ j, depB l i j = true → listed.getD j false = true := by
          intro j hj
          simp only [depB, ho'] at hj
          obtain ⟨e, he, h7⟩ := List.any_eq_true.1 hj
          simp only [Bool.and_eq_true, beq_iff_eq] at h7
          have := hedge e (Array.mem_toList_iff.1 he) h7.2
          rwa [h7.1] at this
        have hip : i < p := by
          rcases Nat.lt_or_ge i p with h7 | h7
          · exact h7
          · exfalso
            obtain ⟨e, he, h8, h9⟩ := iB ht hlt h7 (Nat.lt_of_lt_of_le hq1 h7) ho'
            have := hedge e he h9
            rw [h8, hq2] at this; cases this
        have hil : listed.getD i false = false := by rw [bR hs hlt false true]; exact h0
        have hid : hasDst l i = true := (hplan i (hmem i hip)).2
        obtain ⟨d, hod⟩ : ∃ d, o.dst = some d := by
          unfold hasDst at hid; rw [ho'] at hid
          cases hd : o.dst with
          | none => rw [Option.bind_some, hd] at hid; cases hid
          | some d => exact ⟨d, rfl⟩
        have hdd : dstOf l i = d := by simp [dstOf, ho', hod]
        have hdn : d < n := by
          have h8 := List.all_eq_true.1 hdr i (List.mem_range.2 hlt)
          simp only [ho', Bool.and_eq_true] at h8
          rw [hdd] at h8
          exact bp h8.1.1
        have hleft := cc hlt hs h0
        have hun' : ∀ j, p ≤ j → j < l.length → (listed.setIfInBounds i true).getD j false = false := fun j h1 h2 => by rw [getD_set_ne false (by omega)]; exact hun j h1 h2
        have hlp' : ∀ j, (listed.setIfInBounds i true).getD j false = true → j < p := by
          intro j hj
          by_cases hij : i = j
          · subst hij; exact hip
          · rw [getD_set_ne false hij] at hj; exact hlp j hj
        have hput : ∀ v, (a.put o.dst v).tmps.getD (dstOf l i) undef = v := by
          intro v
          rw [hdd, hod]; simp [Act.put, Array.getD_eq_getD_getElem?, hk.size, hdn]
        have hputo : ∀ v j, j < p → hasDst l j = true → i ≠ j → (a.put o.dst v).tmps.getD (dstOf l j) undef = a.tmps.getD (dstOf l j) undef := by
          intro v j hj hdj hij
          have hne : d ≠ dstOf l j := fun e => hij (cr hdr hlt (by omega) hid hdj (by rw [hdd, e]))
          rw [hod]
          simp only [Act.put, Array.getD_eq_getD_getElem?]; rw [Array.getElem?_setIfInBounds_ne hne]
        have hkput : ∀ v, Kn n f0 (a.put o.dst v) := by
          intro v
          rw [hod]
          exact hk.putOther (by rw [← hdd]; exact hfree i hip hid) v
        have hpm := hmem i hip
        rw [h1] at hpm
        have hpredep : ∀ j, depB l i j = true → j ∈ pre → a.tmps.getD (dstOf l j) undef = vs j := fun j hj _ => (h6 j (hdepl j hj)).2
        have step : ∀ f1, Kn n f1 a → ∀ R : Value → World → Prop, PStep P n l.toArray o f1 w' R → (∀ v w2, R v w2 → wpAny P .any l.toArray (KQ P fin k) fuel (listed.setIfInBounds i true) (a.put o.dst v) w2) → wpOp P l.toArray (KQ P fin k) i (wpAny P .any l.toArray (KQ P fin k) fuel (listed.setIfInBounds i true)) a w' := by
          intro f1 hkf R hp hn
          obtain ⟨p1, p2⟩ := hp a hkf (wpAny P .any l.toArray (KQ P fin k) fuel (listed.setIfInBounds i true)) (KQ P fin k) hn
          unfold wpOp
          rw [ho]
          simp only
          by_cases hw : Region.wanted o (yielded l.toArray a.tmps) = true
          · rw [if_pos hw]; exact .inl (p1 hw)
          · rw [if_neg hw]; exact p2 (eq_false_of_ne_true hw)
        rcases List.mem_append.1 hpm with hpre | hrs
        · have hcb : cs.contains i = false := by
            cases hc : cs.contains i with
            | false => rfl
            | true => have := h5 i hpre hc; rw [hil] at this; cases this
          obtain ⟨o2, f1, g1, g2, g3⟩ := h4 i hpre hcb
          rw [ho'] at g1
          simp only [Option.some.injEq] at g1
          subst g1
          refine step f1 (kn_lk hk g2 hpredep) _ (g3 w' (Keep.refl _ _)) ?_
          rintro v w2 ⟨rfl, rfl⟩
          refine ih _ _ _ (by simpa using hs) (by omega) (hkput _) hun' hlp' ⟨pre, rest, vs, h1, h2, h3, h4, fun j hj hc => ?_, fun j hj => ?_⟩
          · by_cases hij : i = j
            · subst hij; rw [hcb] at hc; cases hc
            · rw [getD_set_ne false hij]; exact h5 j hj hc
          · by_cases hij : i = j
            · subst hij; exact ⟨hpre, hput _⟩
            · rw [getD_set_ne false hij] at hj
              obtain ⟨m1, m2⟩ := h6 j hj
              have hpj := hplan j (by rw [h1]; simp [m1])
              exact ⟨m1, by rw [hputo _ j hpj.1 hpj.2 hij]; exact m2⟩
        · cases rest with
          | nil => cases hrs
          | cons c r =>
            have hcc := h2 c r rfl
            rw [h1] at heag
            obtain ⟨he1, he2⟩ := cW heag
            rcases List.mem_cons.1 hrs with hic | hir
            · subst hic
              have h30 := h3
              unfold PW at h30
              obtain ⟨o2, f1, g1, g2, g3, g4⟩ := h30
              rw [ho'] at g1
              simp only [Option.some.injEq] at g1
              subst g1
              rcases g4 with ⟨_, g4⟩ | ⟨g4, _⟩
              · have hlk := lk_of (f0 := f0) hdr hpl (fun j hj => hplan j (by rw [h1]; simp [hj])) g2 g3
                refine step f1 (kn_lk hk hlk hpredep) _ g4 ?_
                rintro v w2 ⟨hkw, hpw⟩
                have hni : i ∉ pre := fun hm => he2 i hm (by simp)
                have hnr : i ∉ pre.reverse := by simpa using hni
                have hmm : ∀ j, j ∈ pre → j ∈ pre ++ [i] ∧ setV vs i v j = vs j := fun j hj => ⟨by simp [hj], dM vs v (fun e => hni (e ▸ hj))⟩
                obtain ⟨pre', rest', vs', k1, k2, k3, k4, k5, k6⟩ := absorb (f0 := f0) (T := T) (cb := fun i => cs.contains i) hdr hpl r (pre ++ [i]) (setV vs i v) w2 (by rw [List.append_assoc, List.singleton_append]; exact heag) (by rw [List.append_assoc, List.singleton_append, ← h1]; exact hplan)
                  (by rw [List.reverse_append, List.reverse_singleton, List.singleton_append, depFr, dA, fq hnr]; exact hpw)
                  (fun j hj hcj => by
                    rcases List.mem_append.1 hj with h | h
                    · exact (h4 j h hcj).mono h hmm hkw
                    · rw [List.mem_singleton] at h
                      subst h; rw [hcc] at hcj; cases hcj)
                have hsame : ∀ j, j ∈ pre → j ∈ pre' ∧ vs' j = vs j := fun j hj => ⟨(k2 j (hmm j hj).1).1, ((k2 j (hmm j hj).1).2).trans (hmm j hj).2⟩
                have hci := k2 i (by simp)
                rw [dA] at hci
                refine ih _ _ _ (by simpa using hs) (by omega) (hkput _) hun' hlp' ⟨pre', rest', vs', by rw [← k1, h1]; simp, k4, k5, k6, fun j hj hc => ?_, fun j hj => ?_⟩
                · by_cases hij : i = j
                  · subst hij
                    rw [Array.getD_eq_getD_getElem?]; simp [hs, hlt]
                  · rw [getD_set_ne false hij]
                    rcases k3 j hj with h | h
                    · rcases List.mem_append.1 h with h | h
                      · exact h5 j h hc
                      · rw [List.mem_singleton] at h; exact absurd h.symm hij
                    · rw [hc] at h; cases h
                · by_cases hij : i = j
                  · subst hij; exact ⟨hci.1, by rw [hput, hci.2]⟩
                  · rw [getD_set_ne false hij] at hj
                    obtain ⟨m1, m2⟩ := h6 j hj
                    have hpj := hplan j (by rw [h1]; simp [m1])
                    exact ⟨(hsame j m1).1, by rw [hputo _ j hpj.1 hpj.2 hij, (hsame j m1).2]; exact m2⟩
              · rw [hcc] at g4; cases g4
            · exfalso
              simp only [eager, Bool.and_eq_true] at he1
              have h7 := he1.1.2
              rw [hcc, Bool.not_true, Bool.false_or] at h7
              have h8 := List.all_eq_true.1 h7 i hir
              obtain ⟨j, hj, hdj⟩ := List.any_eq_true.1 h8
              exact he2 j (h6 j (hdepl j hdj)).1 hj
  obtain ⟨pre', rest', vs', k1, k2, k3, k4, k5, k6⟩ := absorb (f0 := f0) (T := T) hdr hpl plan [] (fun _ => undef) _ heag hplan (h _ (bt w)) (fun i hi => by cases hi)
  refine key _ _ a _ (by simp) ?_ ha0 ?_ ?_ ⟨pre', rest', vs', k1, k4, k5, k6, fun i hi hc => ?_, fun i hi => ?_⟩
  · unfold left
    have := List.countP_le_length (p := fun i => !(Array.replicate l.toArray.size false).getD i true) (l := List.range l.length)
    simpa using this
  · intro i _ hi
    rw [Array.getD_eq_getD_getElem?, Array.getElem?_eq_getElem (by simpa using hi)]; simp
  · intro i hi
    exfalso
    rw [Array.getD_eq_getD_getElem?] at hi
    rcases Nat.lt_or_ge i l.toArray.size with h' | h'
    · rw [Array.getElem?_eq_getElem (by simpa using h')] at hi; simp at hi
    · rw [Array.getElem?_eq_none (by simpa using h')] at hi; simp at hi
  · rcases k3 i hi with h | h
    · cases h
    · rw [hc] at h; cases h
  · exfalso
    rw [Array.getD_eq_getD_getElem?] at hi
    rcases Nat.lt_or_ge i l.toArray.size with h' | h'
    · rw [Array.getElem?_eq_getElem (by simpa using h')] at hi; simp at hi
    · rw [Array.getElem?_eq_none (by simpa using h')] at hi; simp at hi
end
end Go.Eng
namespace Go.Eng
open Go Go.IntWalk
section
variable {P : Program} {n : NN} {f : Fr} {w : World} {ty : TypeId} {fin : Exit → Act → World → Prop} {k : List KI} {l : List Oper} {p : Nat} {T cs r : List Nat} {Fin : Fr → World → Prop} {i : Nat}
theorem iX {d : Nat} {op : Op} {pos : String} {aft : Array Edge} {g : Option (Nat × Bool)} (ho : l[i]? = some ⟨some d, op, ty, pos, aft, g⟩) : dstOf l i = d := by unfold dstOf; rw [ho]; rfl
theorem lA (h : OW P fin n k l.toArray (l.drop p) f w) : PW P n l p T (fun i => cs.contains i) (fun f' w' => OW P fin n k l.toArray (l.drop p) f' w') [] f w := by unfold PW; exact h
theorem ld {f1 : Fr} {ops : Array Oper} {d : Nat} {op : Op} {pos : String} {aft : Array Edge} {v : Value} (hr : Gives P n f1 w op ty v w) : PStep P n ops ⟨some d, op, ty, pos, aft, none⟩ f1 w (fun v' w'' => v' = v ∧ w'' = w) := by
  intro a ha K Q hK
  refine ⟨fun _ => ?_, fun h => by simp [Region.wanted] at h⟩
  unfold Oper.wp
  rw [hr a ha]
  exact hK _ _ ⟨rfl, rfl⟩
theorem nL (f1 : Fr) {op : Op} {d : Nat} {pos : String} {aft : Array Edge} {v : Value} (ho : l[i]? = some ⟨some d, op, ty, pos, aft, none⟩) (hc : cs.contains i = false) (hs : Fr.sub f1 f) (hk : slotsOk l p i f1 = true)
   (hr : ∀ w', Keep T w w' → Gives P n f1 w' op ty v w') (h : PW P n l p T (fun i => cs.contains i) Fin r ((d, v) :: f) w) : PW P n l p T (fun i => cs.contains i) Fin (i :: r) f w := by
 unfold PW
 exact ⟨_, f1, ho, hs, hk, .inr ⟨hc, v, fun w' hw => ld (hr w' hw), by rw [iX ho]; exact h⟩⟩
theorem gS (f1 : Fr) {op : Op} {d : Nat} {pos : String} {aft : Array Edge} {R : Value → World → Prop} (ho : l[i]? = some ⟨some d, op, ty, pos, aft, none⟩) (hc : cs.contains i = true) (hs : Fr.sub f1 f) (hk : slotsOk l p i f1 = true)
   (hr : Does P n f1 w op ty R) (h : ∀ v w', R v w' → Keep T w w' ∧ PW P n l p T (fun i => cs.contains i) Fin r ((d, v) :: f) w') : PW P n l p T (fun i => cs.contains i) Fin (i :: r) f w := by
 unfold PW
 refine ⟨_, f1, ho, hs, hk, .inl ⟨hc, fun a ha K Q hK => ⟨fun _ => ?_, fun h => by simp [Region.wanted] at h⟩⟩⟩
 exact hr a ha _ _ _ _ _ _ (fun v w' hv => hK _ _ (by rw [iX ho]; exact h v w' hv))
end
end Go.Eng
