/- Contracts and laws, part 2 of 6: what each function of the program and of the reference computes, shown once. -/
import Derived.StillTail
import Derived.Test.YtjfmmoonpdifcaaDoorQfa
set_option maxRecDepth 100000
set_option maxHeartbeats 4000000
set_option linter.unusedVariables false
set_option linter.unusedSimpArgs false
namespace Go.Proofs.YtjfmmoonpdifcaaDoor.W
open Go Go.Eng Go.Byt
def RdrQ (Q : Nat → Prop) (w : World) (p : Nat) (rest : List UInt8) (e : Int) : Prop := ∃ bw, Bk w p 78 [bw, .int .i64 e, .bool true] ∧ RdB w bw rest ∧ ∀ x, x ∈ vblk bw → x < p ∧ Q x
abbrev Rdr := RdrQ (fun _ => True)
variable {Q : Nat → Prop}
theorem RdrQ.lt {w : World} {p : Nat} {rest : List UInt8} {e : Int} (h : RdrQ Q w p rest e) : p < w.heap.size := by obtain ⟨bw, hb, _⟩ := h; exact hb.lt
theorem RdrQ.lh {w w' : World} {p : Nat} {rest : List UInt8} {e : Int} (h : RdrQ Q w p rest e) (k : Keep [] w w') : RdrQ Q w' p rest e := by
 obtain ⟨bw, hb, hr, hn⟩ := h; exact ⟨bw, hb.lh k, hr.lh k, hn⟩
theorem RdrQ.keep {S : List Nat} {w w' : World} {p : Nat} {rest : List UInt8} {e : Int} (h : RdrQ Q w p rest e) (k : Keep S w w') (hS : ∀ x, x ≤ p → x ∉ S) : RdrQ Q w' p rest e := by
 obtain ⟨bw, hb, hr, hn⟩ := h; exact ⟨bw, hb.keep k (hS p (Nat.le_refl _)), hr.keep k (fun x hx => hS x (Nat.le_of_lt (hn x hx).1)), hn⟩
def RdrL (w : World) (lo p : Nat) (rest : List UInt8) (e : Int) : Prop := lo ≤ p ∧ ∃ bw, Bk w p 78 [bw, .int .i64 e, .bool true] ∧ RdB w bw rest ∧ ∀ x, x ∈ vblk bw → lo ≤ x ∧ x < p
theorem RdrL.rdr {w : World} {lo p : Nat} {rest : List UInt8} {e : Int} (h : RdrL w lo p rest e) : Rdr w p rest e := by obtain ⟨_, bw, hb, hr, hn⟩ := h; exact ⟨bw, hb, hr, fun x hx => ⟨(hn x hx).2, trivial⟩⟩
theorem RdrL.rdrQ {w : World} {lo p : Nat} {rest : List UInt8} {e : Int} (h : RdrL w lo p rest e) : RdrQ (fun x => lo ≤ x) w p rest e := by obtain ⟨_, bw, hb, hr, hn⟩ := h; exact ⟨bw, hb, hr, fun x hx => ⟨(hn x hx).2, (hn x hx).1⟩⟩
theorem RdrQ.rdrL {w : World} {lo p : Nat} {rest : List UInt8} {e : Int} (h : RdrQ (fun x => lo ≤ x) w p rest e) (h0 : lo ≤ p) : RdrL w lo p rest e := by obtain ⟨bw, hb, hr, hn⟩ := h; exact ⟨h0, bw, hb, hr, fun x hx => ⟨(hn x hx).2, (hn x hx).1⟩⟩
theorem RdrL.keep {S : List Nat} {w w' : World} {lo p : Nat} {rest : List UInt8} {e : Int} (h : RdrL w lo p rest e) (k : Keep S w w') (hS : ∀ x, lo ≤ x → x ∉ S) : RdrL w' lo p rest e := by
 obtain ⟨h0, bw, hb, hr, hn⟩ := h; exact ⟨h0, bw, hb.keep k (hS p h0), hr.keep k (fun x hx => hS x (hn x hx).1), hn⟩
theorem RdrL.lh {w w' : World} {lo p : Nat} {rest : List UInt8} {e : Int} (h : RdrL w lo p rest e) (k : Keep [] w w') : RdrL w' lo p rest e := h.keep k (fun _ _ h => by cases h)
theorem RdrQ.setE {w w' : World} {p : Nat} {rest : List UInt8} {bw : Value} {e e' : Int} (hb : Bk w' p 78 (List.set [bw, .int .i64 e, .bool true] 1 (.int .i64 e'))) (hr : RdB w bw rest) (hn : ∀ x, x ∈ vblk bw → x < p ∧ Q x) (k : Keep [p] w w') : RdrQ Q w' p rest e' :=
 ⟨bw, hb, hr.keep k (fun x hx hm => Nat.ne_of_lt (hn x hx).1 (by simpa using hm)), hn⟩
theorem RdrQ.setB {w w' : World} {p n m : Nat} {rest : List UInt8} {bw : Value} {e : Int} (hb : Bk w' p 78 (List.set [bw, .int .i64 e, .bool true] 0 (cut bw n m 1))) (hr : RdB w bw rest) (hn : ∀ x, x ∈ vblk bw → x < p ∧ Q x) (k : Keep [p] w w') (h1 : n ≤ m) (h2 : m = rest.length) : RdrQ Q w' p (rest.drop n) e := by
 subst h2
 refine ⟨_, hb, ?_, fun x hx => hn x (i9 hx)⟩
 have h3 := (hr.cutB h1 (Nat.le_refl _)).keep k (fun x hx hm => Nat.ne_of_lt (hn x (i9 hx)).1 (by simpa using hm))
 rwa [List.take_of_length_le (by simp)] at h3
theorem fb (p : Nat) (rest : List UInt8) (e : Int) (w : World) (h : RdrQ Q w p rest e) : Rets Tryd.prog 54 [.pointer (some ⟨p, 0, none⟩)] w (fun v w' => v = .int .i64 e ∧ w = w') := by
 obtain ⟨bw, hb, hr, hn⟩ := h
 refine ad Tryd.func54 rfl (by decide) Tryd.ntmps54 rfl (fun fin _ hfin => ?_)
 refine aY (aX (oga rfl rfl (aZ (aY (aY (aX ?_))))))
 refine ogm rfl rfl (a4 (g_nilP Tryd.underlying58 rfl) rfl ?_)
 refine ogm rfl rfl (al 5 false rfl (fun c1 hgc1 => ?_))
 refine a5 [(0, _)] (aa rfl rfl rfl hgc1) ⟨au rfl, trivial⟩ (fun hw1 => av rfl) rfl ?_
 refine a5 [(6, _)] (aa rfl rfl rfl hgc1) ⟨ae rfl, trivial⟩ (fun hw2 => ai rfl) rfl ?_
 refine a5 [(7, _)] (aa rfl rfl rfl hgc1) ⟨ae rfl, trivial⟩ (fun hw3 => ay aE rfl ty4 (by decide) rfl) rfl ?_
 refine a5 [(8, _)] (aa rfl rfl rfl hgc1) ⟨ae rfl, trivial⟩ (fun hw4 => ac sc4 rfl ‹_› rfl) rfl ?_
 refine a5 [(9, _)] (aa rfl rfl rfl hgc1) ⟨ae rfl, trivial⟩ (fun hw5 => dq rfl) rfl ?_
 refine a4 (bi rfl rfl hgc1) rfl ?_
 refine aZ (ib rfl (rfl) ?_)
 refine a8 (aY (aX (ogm rfl rfl (a4 (ai rfl) rfl ?_))))
 refine a4 (ay aE rfl dC (by decide) rfl) rfl ?_
 refine a4 (ac sc32 rfl ‹_› rfl) rfl ?_
 refine oga rfl rfl (aZ (af hfin Tryd.results54 rfl ?_))
 exact ⟨rfl, rfl⟩
theorem f5 (p : Nat) (rest : List UInt8) (e size : Int) (w : World) (h : RdrQ Q w p rest e) (hs : 0 ≤ size ∧ size ≤ rest.length) (h8 : size ≤ 7 ∨ (size = 8 ∧ (rest.getD 0 0).toNat < 64)) : Rets Tryd.prog 56 [.pointer (some ⟨p, 0, none⟩), .int .i64 size] w (fun v w' => v = .int .i64 (num (rest.take size.toNat)) ∧ w = w') := by
 obtain ⟨bw, hb, hr, hn⟩ := h
 have hcut0 := hr.cutB (l := 0) (hi := size.toNat) (Nat.zero_le _) (by omega)
 have hcut : RdB w (cut bw 0 size.toNat 1) (rest.take size.toNat) := by simpa using hcut0
 have hlt : (rest.take size.toNat).length = size.toNat := by rw [List.length_take]; omega
 have hbound : ∀ i : Int, 0 ≤ i → i + 1 ≤ size → 0 ≤ num (rest.take i.toNat) ∧ num (rest.take i.toNat) * 256 + 255 < 9223372036854775808 := ew hs.2 h8
 refine ad Tryd.func56 rfl (by decide) Tryd.ntmps56 rfl (fun fin _ hfin => ?_)
 refine aY (aX (oga rfl rfl (aZ (aY (aX (oga rfl rfl ?_))))))
 refine aZ (aY (aY (aX (ogm rfl rfl (a4 (ai rfl) rfl ?_)))))
 refine a4 (ay aE rfl az (by decide) rfl) rfl ?_
 refine a4 (ac ba rfl ‹_› rfl) rfl ?_
 refine ogm rfl rfl (a4 (ek aA bu rfl (by first | assumption | exact Own.rd ‹_› | exact Rd.lh ‹_› hB | exact Own.rd (Own.lh ‹_› hB)) (.inl ⟨rfl, rfl⟩) (.inr ⟨_, _, rfl, rfl⟩) ⟨by omega, by omega, by have := hr.vcap; omega⟩) rfl ?_)
 refine a4 (bI aA rfl hcut) rfl ?_
 refine ogm rfl rfl (aZ (ag (bT (Γ := Int) (fun i => [(5, .int .i64 (num (rest.take i.toNat))), (13, cut bw 0 size.toNat 1), (14, .int .i64 (rest.take size.toNat).length), (15, .int .i64 i)]) (fun i W => 0 ≤ i ∧ i ≤ size ∧ w = W) (fun i => (size - i).toNat) 0 ⟨rfl, rfl, rfl, rfl, trivial⟩ (⟨by decide, by omega, rfl⟩) ?_)))
 rintro i w1 ⟨hi0, hi1, rfl⟩
 refine ab [(5, .int .i64 (num (rest.take i.toNat))), (13, cut bw 0 size.toNat 1), (14, .int .i64 (rest.take size.toNat).length), (15, .int .i64 i)] ⟨rfl, rfl, rfl, rfl, trivial⟩ ?_
 refine aY (aX (a4 (bO rfl rfl) rfl ?_))
 refine aZ (aY (ar rfl (fun hc1 => ?_) (fun hc1 => ?_)))
 ·
  refine a8 (aY (ag (aY (aX (a4 (bR aA bu rfl hcut rfl (by omega)) rfl ?_)))))
  have hget : (rest.take size.toNat)[i.toNat]? = rest[i.toNat]? := by rw [List.getElem?_take, if_pos (by omega)]
  obtain ⟨x, hx⟩ : ∃ x, rest[i.toNat]? = some x := ⟨_, List.getElem?_eq_getElem (by omega)⟩
  have hgb : gb (rest.take size.toNat) i = x.toNat := by unfold gb; rw [List.getD_eq_getElem?_getD, hget, hx]; rfl
  have hxl := x.toNat_lt
  have hnum : num (rest.take (i + 1).toNat) = num (rest.take i.toNat) * 256 + x.toNat := by rw [show (i + 1).toNat = i.toNat + 1 from by omega, bl hx, ey]
  have hbd := hbound i hi0 (by omega)
  have hor : bits .or .i64 (num (rest.take i.toNat) * 256) x.toNat = num (rest.take (i + 1).toNat) := by rw [hnum]; exact jY 8 (by omega) (by omega) (by omega) (by omega) (by omega) (by omega)
  refine a4 (v := .int .u8 (x.toNat : Int)) (by rw [← hgb]; exact eK jR rfl hcut ⟨by omega, by omega⟩) rfl ?_
  refine oga rfl rfl (aZ (aX (ogm rfl rfl (a4 (jq (m := 256) rfl rfl (by decide) (by decide) (by omega)) rfl ?_))))
  refine ogm rfl rfl (a4 (jr (by rw [aI]; rfl) aK rfl (by omega)) rfl ?_)
  refine a4 (j4 rfl rfl) rfl ?_
  refine oga rfl rfl (aZ (bg (aX (a4 (br rfl rfl (by omega)) rfl ?_))))
  refine ogm rfl rfl (aZ (bd (Γ := Int) (i + 1) ⟨congrArg (fun z : Int => some (Value.int .i64 z)) hor, rfl, rfl, rfl, trivial⟩ (by (try dsimp only); omega) (⟨by omega, by omega, rfl⟩)))
 ·
  refine bN rfl ?_
  refine aY (aX (ogm rfl rfl (oga rfl rfl (aZ (af hfin Tryd.results56 rfl ?_)))))
  obtain rfl : i = size := by omega
  exact ⟨rfl, rfl⟩
theorem ij (p : Nat) (rest : List UInt8) (e size : Int) (w : World) (h : RdrQ Q w p rest e) (hs : size = 1 ∨ size = 2 ∨ size = 4 ∨ size = 8) : Rets Tryd.prog 32 [.pointer (some ⟨p, 0, none⟩), .int .i64 size] w (fun v w' => ∃ r, r = rNum (bitsOf size) rest e size ∧ v = .int .i64 r.1 ∧ RdrQ Q w' p r.2.1 r.2.2 ∧ Keep [p] w w') := by
 obtain ⟨bw, hb, hr, hn⟩ := h
 have hB : Keep [p] w w := Keep.refl _ _
 have hgb0 : gb rest 0 = ((rest.getD 0 0).toNat : Int) := rfl
 have hcap := hr.vcap
 refine ad Tryd.func32 rfl (by decide) Tryd.ntmps32 rfl (fun fin _ hfin => ?_)
 refine aY (aX (oga rfl rfl (aZ (gX 1 ?_))))
 refine aY (aY (aX (ogm rfl rfl (ah (a7 (vs := [_]) rfl (fb _ _ _ _ (by exact ⟨bw, hb, hr, hn⟩))) rfl ?_))))
 rintro _ _ ⟨rfl, rfl⟩
 refine a4 (cC rfl rfl) rfl ?_
 refine aZ (ar rfl (fun hc1 => ?_) (fun hc1 => ?_))
 ·
  refine aY (aX (oga rfl rfl (aZ (af hfin Tryd.results32 rfl ?_))))
  refine ⟨(0, rest, e), ?_, rfl, ⟨bw, hb, hr, hn⟩, hB⟩
  unfold rNum
  repeat (first | rw [if_pos ‹_›] | rw [if_neg ‹_›] | rw [if_pos (by omega)] | rw [if_neg (by omega)])
  all_goals first | rfl | (refine Prod.ext rfl (Prod.ext rfl ?_); show _ = _; dsimp only; omega)
 ·
  refine a8 (aY (aX (ogm rfl rfl (ah (a7 (vs := [_]) rfl (jI _ _)) rfl ?_))))
  rintro _ w1 ⟨rfl, rfl⟩
  refine oga rfl rfl (aZ (aY (aY (aX (ogm rfl rfl (a4 (bO rfl rfl) rfl ?_))))))
  refine aZ (ar rfl (fun hc2 => ?_) (fun hc2 => ?_))
  ·
   refine aY (aX (ogm rfl rfl (a4 (ai rfl) rfl ?_)))
   refine a4 (ay aE rfl dC (by decide) rfl) rfl ?_
   refine am (bQ dC rfl rfl rfl hb rfl) ?_
   rintro _ w2 ⟨hq1, k1, z1⟩
   have hR : RdrQ Q w2 p rest 1 := RdrQ.setE hq1 hr hn k1
   replace hB := hB.trans k1
   refine aZ (cU rfl ?_)
   refine aY (a8 (aY (aX (ogm rfl rfl (oga rfl rfl (aZ ?_))))))
   refine af hfin Tryd.results32 rfl ?_
   refine ⟨(0, rest, 1), ?_, rfl, hR, hB⟩
   unfold rNum
   repeat (first | rw [if_pos ‹_›] | rw [if_neg ‹_›] | rw [if_pos (by omega)] | rw [if_neg (by omega)])
   all_goals first | rfl | (refine Prod.ext rfl (Prod.ext rfl ?_); show _ = _; dsimp only; omega)
  ·
   refine a8 (aY (aY (aX (ogm rfl rfl (a4 (ai rfl) rfl ?_)))))
   refine a4 (ay aE rfl az (by decide) rfl) rfl ?_
   refine a4 (ac ba rfl ‹_› rfl) rfl ?_
   refine a4 (bI aA rfl (by first | assumption | exact Own.rd ‹_› | exact Rd.lh ‹_› hB | exact Own.rd (Own.lh ‹_› hB))) rfl ?_
   refine ogm rfl rfl (a4 (bO rfl rfl) rfl ?_)
   refine aZ (ar rfl (fun hc3 => ?_) (fun hc3 => ?_))
   ·
    refine aY (aX (ogm rfl rfl (a4 (ai rfl) rfl ?_)))
    refine a4 (ay aE rfl dC (by decide) rfl) rfl ?_
    refine am (bQ dC rfl rfl rfl hb rfl) ?_
    rintro _ w3 ⟨hq2, k2, z2⟩
    have hR : RdrQ Q w3 p rest 20 := RdrQ.setE hq2 hr hn k2
    replace hB := hB.trans k2
    refine aZ (cU rfl ?_)
    refine aY (a8 (aY (aX (ogm rfl rfl (oga rfl rfl (aZ ?_))))))
    refine af hfin Tryd.results32 rfl ?_
    refine ⟨(0, rest, 20), ?_, rfl, hR, hB⟩
    unfold rNum
    repeat (first | rw [if_pos ‹_›] | rw [if_neg ‹_›] | rw [if_pos (by omega)] | rw [if_neg (by omega)])
    all_goals first | rfl | (refine Prod.ext rfl (Prod.ext rfl ?_); show _ = _; dsimp only; omega)
   ·
    refine a8 (aY (aY (aX (ogm rfl rfl (a4 (bF rfl rfl) rfl ?_)))))
    refine ogm rfl rfl (al 28 true rfl (fun c1 hgc1 => ?_))
    refine a5 [(0, _)] (aa rfl rfl rfl hgc1) ⟨au rfl, trivial⟩ (fun hw1 => av rfl) rfl ?_
    refine a5 [(29, _)] (aa rfl rfl rfl hgc1) ⟨ae rfl, trivial⟩ (fun hw2 => ai rfl) rfl ?_
    refine a5 [(30, _)] (aa rfl rfl rfl hgc1) ⟨ae rfl, trivial⟩ (fun hw3 => ay aE rfl az (by decide) rfl) rfl ?_
    refine a5 [(31, _)] (aa rfl rfl rfl hgc1) ⟨ae rfl, trivial⟩ (fun hw4 => ac ba rfl ‹_› rfl) rfl ?_
    refine a5 [(32, _)] (aa rfl rfl rfl hgc1) ⟨ae rfl, trivial⟩ (fun hw5 => bR aA bu rfl (by first | assumption | exact Own.rd ‹_› | exact Rd.lh ‹_› hB | exact Own.rd (Own.lh ‹_› hB)) rfl (by omega)) rfl ?_
    refine a5 [(33, _)] (aa rfl rfl rfl hgc1) ⟨ae rfl, trivial⟩ (fun hw6 => eK jR rfl (by first | assumption | exact Own.rd ‹_› | exact Rd.lh ‹_› hB | exact Own.rd (Own.lh ‹_› hB)) (by omega)) rfl ?_
    refine a5 [(34, _)] (aa rfl rfl rfl hgc1) ⟨ae rfl, trivial⟩ (fun hw7 => fA rfl rfl) rfl ?_
    refine a4 (ax rfl rfl hgc1) rfl ?_
    refine aZ (bH rfl (fun hc4 => ?_) (fun hc4 => ?_))
    ·
     have hd1 := hc4
     try (simp only [Bool.and_eq_true, Bool.or_eq_true, decide_eq_true_eq, Bool.and_eq_false_iff, Bool.or_eq_false_iff, decide_eq_false_iff_not, Bool.not_eq_true', Bool.not_eq_false', Bool.not_eq_true, Bool.not_eq_false, ne_eq, Decidable.not_not, decide_true, decide_false, Bool.true_and, Bool.false_and, Bool.or_false, Bool.false_or, not_true_eq_false, false_or, or_false, true_and, and_true, not_false_eq_true, reduceCtorEq] at hd1)
     refine aY (aX (ogm rfl rfl (a4 (ai rfl) rfl ?_)))
     refine a4 (ay aE rfl dC (by decide) rfl) rfl ?_
     refine am (bQ dC rfl rfl rfl hb rfl) ?_
     rintro _ w4 ⟨hq3, k3, z3⟩
     have hR : RdrQ Q w4 p rest 11 := RdrQ.setE hq3 hr hn k3
     replace hB := hB.trans k3
     refine aZ (cU rfl ?_)
     refine aY (a8 (aY (aX (ogm rfl rfl (oga rfl rfl (aZ ?_))))))
     refine af hfin Tryd.results32 rfl ?_
     refine ⟨(0, rest, 11), ?_, rfl, hR, hB⟩
     unfold rNum
     repeat (first | rw [if_pos ‹_›] | rw [if_neg ‹_›] | rw [if_pos (by omega)] | rw [if_neg (by omega)])
     all_goals first | rfl | (refine Prod.ext rfl (Prod.ext rfl ?_); show _ = _; dsimp only; omega)
    ·
     have hd2 := hc4
     try (simp only [Bool.and_eq_true, Bool.or_eq_true, decide_eq_true_eq, Bool.and_eq_false_iff, Bool.or_eq_false_iff, decide_eq_false_iff_not, Bool.not_eq_true', Bool.not_eq_false', Bool.not_eq_true, Bool.not_eq_false, ne_eq, Decidable.not_not, decide_true, decide_false, Bool.true_and, Bool.false_and, Bool.or_false, Bool.false_or, not_true_eq_false, false_or, or_false, true_and, and_true, not_false_eq_true, reduceCtorEq] at hd2)
     refine a8 (aY (aX (ogm rfl rfl (ogm rfl rfl (ah (a7 (vs := [_, _]) rfl (f5 _ rest e _ _ (by exact ⟨bw, hb, hr, hn⟩) (by omega) (by omega))) rfl ?_)))))
     rintro _ _ ⟨rfl, rfl⟩
     refine oga rfl rfl (aZ (aY (aX (ogm rfl rfl (ogm rfl rfl (a4 (ai rfl) rfl ?_))))))
     refine a4 (ay aE rfl az (by decide) rfl) rfl ?_
     refine a4 (ac ba rfl ‹_› rfl) rfl ?_
     refine ogm rfl rfl (a4 (ek aA bu rfl (by first | assumption | exact Own.rd ‹_› | exact Rd.lh ‹_› hB | exact Own.rd (Own.lh ‹_› hB)) (.inr ⟨_, _, rfl, rfl⟩) (.inl ⟨rfl, rfl⟩) ⟨by omega, by omega, by omega⟩) rfl ?_)
     refine a4 (ai rfl) rfl ?_
     refine a4 (ay aE rfl az (by decide) rfl) rfl ?_
     refine am (bQ az rfl rfl hr.cutOne hb rfl) ?_
     rintro _ w5 ⟨hq4, k4, z4⟩
     have hR : RdrQ Q w5 p (rest.drop size.toNat) e := RdrQ.setB hq4 hr hn k4 (by omega) (by omega)
     replace hB := hB.trans k4
     refine aZ (aY (cX (aY (aX (ogm rfl rfl (oga rfl rfl ?_))))))
     refine aZ (af hfin Tryd.results32 rfl ?_)
     refine ⟨(num (rest.take size.toNat), rest.drop size.toNat, e), ?_, rfl, hR, hB⟩
     unfold rNum
     repeat (first | rw [if_pos ‹_›] | rw [if_neg ‹_›] | rw [if_pos (by omega)] | rw [if_neg (by omega)])
     all_goals first | rfl | (refine Prod.ext rfl (Prod.ext rfl ?_); show _ = _; dsimp only; omega)
theorem ik (p : Nat) (rest : List UInt8) (e : Int) (w : World) (h : RdrQ Q w p rest e) : Rets Tryd.prog 57 [.pointer (some ⟨p, 0, none⟩)] w (fun v w' => ∃ r, r = rLen rest e ∧ v = .int .i64 r.1 ∧ RdrQ Q w' p r.2.1 r.2.2 ∧ Keep [p] w w') := by
  obtain ⟨bw, hb, hr, hn⟩ := h
  have hB : Keep [p] w w := Keep.refl _ _
  have hgb0 : gb rest 0 = ((rest.getD 0 0).toNat : Int) := rfl
  have hcap := hr.vcap
  have hgr := f6 rest 0
  have ht3 : top rest = (rest.getD 0 0).toNat / 64 := rfl
  have hnb : ∀ n, n ≤ 7 → 0 ≤ num (rest.take n) ∧ num (rest.take n) < 9223372036854775808 := iA rest
  have htop0 : rest.length = 0 → top rest = 0 := by intro h0; rw [List.length_eq_zero_iff] at h0; subst h0; rfl
  refine ad Tryd.func57 rfl (by decide) Tryd.ntmps57 rfl (fun fin _ hfin => ?_)
  refine aY ?_
  refine aX ?_
  refine oga rfl rfl ?_
  refine aZ ?_
  refine gX 1 ?_
  refine aY ?_
  refine aY ?_
  refine aX ?_
  refine ogm rfl rfl ?_
  refine ah (a7 (vs := [_]) rfl (fb _ _ _ _ (by exact ⟨bw, hb, hr, hn⟩))) rfl ?_
  rintro _ _ ⟨rfl, rfl⟩
  refine a4 (cC rfl rfl) rfl ?_
  refine aZ ?_
  refine ar rfl (fun hc1 => ?_) (fun hc1 => ?_)
  · -- yes
    refine aY ?_
    refine aX ?_
    refine oga rfl rfl ?_
    refine aZ ?_
    refine af hfin Tryd.results57 rfl ?_
    refine ⟨(0, rest, e), ?_, rfl, ⟨bw, hb, hr, hn⟩, hB⟩
    unfold rLen
    try rw [htop]
    try simp only [Nat.reducePow, Nat.reduceMul, Nat.reduceSub, Int.reducePow]
    repeat (first | rw [if_pos (by assumption)] | rw [if_neg (by assumption)] | rw [if_pos (by omega)] | rw [if_neg (by omega)])
    all_goals first | rfl | (refine Prod.ext rfl (Prod.ext rfl ?_); show _ = _; dsimp only; omega)
  · -- no
    refine a8 ?_
    refine aY ?_
    refine aX ?_
    refine oga rfl rfl ?_
    refine oga rfl rfl ?_
    refine aZ ?_
    refine aY ?_
    refine aY ?_
    refine aX ?_
    refine ogm rfl rfl ?_
    refine a4 (ai rfl) rfl ?_
    refine a4 (ay aE rfl az (by decide) rfl) rfl ?_
    refine a4 (ac ba rfl (by assumption) rfl) rfl ?_
    refine a4 (bI aA rfl (by first | assumption | exact Own.rd (by assumption) | exact Rd.lh (by assumption) hB | exact Own.rd (Own.lh (by assumption) hB))) rfl ?_
    refine a4 (dr rfl rfl) rfl ?_
    refine aZ ?_
    refine ar rfl (fun hc2 => ?_) (fun hc2 => ?_)
    · -- yes
      refine aY ?_
      refine aX ?_
      refine ogm rfl rfl ?_
      refine a4 (ai rfl) rfl ?_
      refine a4 (ay aE rfl az (by decide) rfl) rfl ?_
      refine a4 (ac ba rfl (by assumption) rfl) rfl ?_
      refine a4 (bR aA bu rfl (by first | assumption | exact Own.rd (by assumption) | exact Rd.lh (by assumption) hB | exact Own.rd (Own.lh (by assumption) hB)) rfl (by omega)) rfl ?_
      refine a4 (eK jR rfl (by first | assumption | exact Own.rd (by assumption) | exact Rd.lh (by assumption) hB | exact Own.rd (Own.lh (by assumption) hB)) (by omega)) rfl ?_
      refine a4 (ef (m := 64) rfl rfl (by decide) (by decide)) rfl ?_
      refine a4 (jr (by rw [aI]; rfl) aK rfl (by omega)) rfl ?_
      refine oga rfl rfl ?_
      refine aZ ?_
      rcases (show gb rest 0 / 64 = 0 ∨ gb rest 0 / 64 = 1 ∨ gb rest 0 / 64 = 2 ∨ gb rest 0 / 64 = 3 by omega) with hq | hq | hq | hq
      · have htop : top rest = 0 := by omega
        rw [hq]
        refine aX ?_
        refine ogm rfl rfl ?_
        refine a4 (ak (j := 1) (cz rfl rfl (by decide)) (by decide)) rfl ?_
        refine oga rfl rfl ?_
        refine aZ ?_
        refine aY ?_
        refine aY ?_
        refine aX ?_
        refine ogm rfl rfl ?_
        refine a4 (bF rfl rfl) rfl ?_
        refine aZ ?_
        refine co rfl (by decide) ?_
        refine a8 ?_
        refine aY ?_
        refine aY ?_
        refine aX ?_
        refine ogm rfl rfl ?_
        refine a4 (ai rfl) rfl ?_
        refine a4 (ay aE rfl az (by decide) rfl) rfl ?_
        refine a4 (ac ba rfl (by assumption) rfl) rfl ?_
        refine a4 (bI aA rfl (by first | assumption | exact Own.rd (by assumption) | exact Rd.lh (by assumption) hB | exact Own.rd (Own.lh (by assumption) hB))) rfl ?_
        refine ogm rfl rfl ?_
        refine a4 (bO rfl rfl) rfl ?_
        refine aZ ?_
        refine ar rfl (fun hc3 => ?_) (fun hc3 => ?_)
        · -- yes
          refine aY ?_
          refine aX ?_
          refine ogm rfl rfl ?_
          refine a4 (ai rfl) rfl ?_
          refine a4 (ay aE rfl dC (by decide) rfl) rfl ?_
          refine am (bQ dC rfl rfl rfl hb rfl) ?_
          rintro _ w1 ⟨hq1, k1, z1⟩
          have hR : RdrQ Q w1 p rest 20 := RdrQ.setE hq1 hr hn k1
          replace hB := hB.trans k1
          refine aZ ?_
          refine cU rfl ?_
          refine aY ?_
          refine a8 ?_
          refine aY ?_
          refine aX ?_
          refine ogm rfl rfl ?_
          refine oga rfl rfl ?_
          refine aZ ?_
          refine af hfin Tryd.results57 rfl ?_
          refine ⟨(0, rest, 20), ?_, rfl, hR, hB⟩
          unfold rLen
          try rw [htop]
          try simp only [Nat.reducePow, Nat.reduceMul, Nat.reduceSub, Int.reducePow]
          repeat (first | rw [if_pos (by assumption)] | rw [if_neg (by assumption)] | rw [if_pos (by omega)] | rw [if_neg (by omega)])
          all_goals first | rfl | (refine Prod.ext rfl (Prod.ext rfl ?_); show _ = _; dsimp only; omega)
        · -- no
          refine a8 ?_
          refine aY ?_
          refine el mixed [(0, _), (3, _), (5, _), (6, _), (7, _), (4, _), (8, _), (9, _), (10, _), (11, _), (12, _), (13, _), (14, _), (15, _), (16, _), (17, _), (18, _), (19, _), (20, _), (21, _), (22, _), (23, _), (24, _), (25, _), (29, _), (30, _), (31, _), (32, _), (33, _), (34, _), (35, _)] (fun jj v W => match jj with | 0 => v = .pointer (some ⟨p, 0, none⟩) | 1 => v = .int .i64 1 | 2 => v = .int .i64 (num (rest.take 1)) | 3 => v = .int .i64 1 | 4 => v = .int .i64 8 | 5 => v = .int .i64 6 | 6 => v = .int .i64 64 | 7 => v = .int .i64 63 | 8 => v = .int .i64 (bits .and .i64 (num (rest.take 1)) 63) | 9 => v = .int .i64 (bits .and .i64 (num (rest.take 1)) 63) | _ => True) ⟨rfl, rfl, rfl, rfl, rfl, rfl, rfl, rfl, rfl, rfl, rfl, rfl, rfl, rfl, rfl, rfl, rfl, rfl, rfl, rfl, rfl, rfl, rfl, rfl, rfl, rfl, rfl, rfl, rfl, rfl, rfl, trivial⟩ (by decide) rfl ?_ ?_ ?_
          · intro jj v W W' h k
            match jj, h with
            | 0, h => exact h
            | 1, h => exact h
            | 2, h => exact h
            | 3, h => exact h
            | 4, h => exact h
            | 5, h => exact h
            | 6, h => exact h
            | 7, h => exact h
            | 8, h => exact h
            | 9, h => exact h
            | _ + 10, _ => trivial
          · refine ⟨?_, ?_, ?_, ?_, ?_, ?_, ?_, ?_, ?_, ?_, trivial⟩
            · refine ⟨[], rfl, ?_⟩; rintro W1 hk vs hd
              replace hB := hB.trans hk.weak
              refine ⟨true, fun a _ => rfl, fun _ => ?_, fun h => by cases h⟩
              refine a6 [(0, _)] ⟨rfl, trivial⟩ ?_
              refine (Gives.does (av rfl)).mono ?_
              rintro v W2 ⟨rfl, rfl⟩
              exact ⟨Keep.refl _ _, rfl⟩
            · refine ⟨[], rfl, ?_⟩; rintro W1 hk vs hd
              replace hB := hB.trans hk.weak
              refine ⟨true, fun a _ => rfl, fun _ => ?_, fun h => by cases h⟩
              refine a6 [(3, _)] ⟨rfl, trivial⟩ ?_
              refine (Gives.does (av rfl)).mono ?_
              rintro v W2 ⟨rfl, rfl⟩
              exact ⟨Keep.refl _ _, rfl⟩
            · refine ⟨[0, 1], rfl, ?_⟩; rintro W1 hk vs hd
              have d0 : (vs 0) = .pointer (some ⟨p, 0, none⟩) := hd 0 (by decide)
              have d1 : (vs 1) = .int .i64 1 := hd 1 (by decide)
              replace hB := hB.trans hk.weak
              refine ⟨true, fun a _ => rfl, fun _ => ?_, fun h => by cases h⟩
              refine a6 [(39, .pointer (some ⟨p, 0, none⟩)), (40, .int .i64 1)] ⟨congrArg some d0, congrArg some d1, trivial⟩ ?_
              refine (a7 (vs := [_, _]) rfl (f5 _ rest e _ W1 (RdrQ.lh (by exact ⟨bw, hb, hr, hn⟩) hk) (by omega) (by omega))).mono ?_
              rintro v W2 ⟨rfl, rfl⟩
              exact ⟨Keep.refl _ _, rfl⟩
            · refine ⟨[], rfl, ?_⟩; rintro W1 hk vs hd
              replace hB := hB.trans hk.weak
              refine ⟨true, fun a _ => rfl, fun _ => ?_, fun h => by cases h⟩
              refine a6 [(3, _)] ⟨rfl, trivial⟩ ?_
              refine (Gives.does (av rfl)).mono ?_
              rintro v W2 ⟨rfl, rfl⟩
              exact ⟨Keep.refl _ _, rfl⟩
            · refine ⟨[3], rfl, ?_⟩; rintro W1 hk vs hd
              have d3 : (vs 3) = .int .i64 1 := hd 3 (by decide)
              replace hB := hB.trans hk.weak
              refine ⟨true, fun a _ => rfl, fun _ => ?_, fun h => by cases h⟩
              refine a6 [(42, .int .i64 1)] ⟨congrArg some d3, trivial⟩ ?_
              refine (Gives.does (ak (j := 8) (cJ rfl rfl) (by decide))).mono ?_
              rintro v W2 ⟨rfl, rfl⟩
              exact ⟨Keep.refl _ _, rfl⟩
            · refine ⟨[4], rfl, ?_⟩; rintro W1 hk vs hd
              have d4 : (vs 4) = .int .i64 8 := hd 4 (by decide)
              replace hB := hB.trans hk.weak
              refine ⟨true, fun a _ => rfl, fun _ => ?_, fun h => by cases h⟩
              refine a6 [(43, .int .i64 8)] ⟨congrArg some d4, trivial⟩ ?_
              refine (Gives.does (ak (j := 6) (bV rfl rfl) (by decide))).mono ?_
              rintro v W2 ⟨rfl, rfl⟩
              exact ⟨Keep.refl _ _, rfl⟩
            · refine ⟨[5], rfl, ?_⟩; rintro W1 hk vs hd
              have d5 : (vs 5) = .int .i64 6 := hd 5 (by decide)
              replace hB := hB.trans hk.weak
              refine ⟨true, fun a _ => rfl, fun _ => ?_, fun h => by cases h⟩
              refine a6 [(44, .int .i64 6)] ⟨congrArg some d5, trivial⟩ ?_
              refine (Gives.does (ak (j := 64) (cz rfl rfl (by decide)) (by decide))).mono ?_
              rintro v W2 ⟨rfl, rfl⟩
              exact ⟨Keep.refl _ _, rfl⟩
            · refine ⟨[6], rfl, ?_⟩; rintro W1 hk vs hd
              have d6 : (vs 6) = .int .i64 64 := hd 6 (by decide)
              replace hB := hB.trans hk.weak
              refine ⟨true, fun a _ => rfl, fun _ => ?_, fun h => by cases h⟩
              refine a6 [(45, .int .i64 64)] ⟨congrArg some d6, trivial⟩ ?_
              refine (Gives.does (ak (j := 63) (bV rfl rfl) (by decide))).mono ?_
              rintro v W2 ⟨rfl, rfl⟩
              exact ⟨Keep.refl _ _, rfl⟩
            · refine ⟨[2, 7], rfl, ?_⟩; rintro W1 hk vs hd
              have d2 : (vs 2) = .int .i64 (num (rest.take 1)) := hd 2 (by decide)
              have d7 : (vs 7) = .int .i64 63 := hd 7 (by decide)
              replace hB := hB.trans hk.weak
              refine ⟨true, fun a _ => rfl, fun _ => ?_, fun h => by cases h⟩
              refine a6 [(41, .int .i64 (num (rest.take 1))), (46, .int .i64 63)] ⟨congrArg some d2, congrArg some d7, trivial⟩ ?_
              refine (Gives.does (ei rfl rfl)).mono ?_
              rintro v W2 ⟨rfl, rfl⟩
              exact ⟨Keep.refl _ _, rfl⟩
            · refine ⟨[8], rfl, ?_⟩; rintro W1 hk vs hd
              have d8 : (vs 8) = .int .i64 (bits .and .i64 (num (rest.take 1)) 63) := hd 8 (by decide)
              replace hB := hB.trans hk.weak
              refine ⟨true, fun a _ => rfl, fun _ => ?_, fun h => by cases h⟩
              refine a6 [(47, .int .i64 (bits .and .i64 (num (rest.take 1)) 63))] ⟨congrArg some d8, trivial⟩ ?_
              refine (Gives.does (ft rfl)).mono ?_
              rintro v W2 ⟨rfl, rfl⟩
              exact ⟨Keep.refl _ _, rfl⟩
          rintro w2 k2 vs hv
          have z_k2 := k2.size
          replace hB := hB.trans k2.weak
          have e2 : (vs 9) = .int .i64 (bits .and .i64 (num (rest.take 1)) 63) := hv 9 (by decide) rfl
          refine ab [(2, .int .i64 (bits .and .i64 (num (rest.take 1)) 63)), (0, _), (3, _), (5, _), (6, _), (7, _), (4, _), (8, _), (9, _), (10, _), (11, _), (12, _), (13, _), (14, _), (15, _), (16, _), (17, _), (18, _), (19, _), (20, _), (21, _), (22, _), (23, _), (24, _), (25, _), (29, _), (30, _), (31, _), (32, _), (33, _), (34, _), (35, _)] ⟨congrArg some e2, rfl, rfl, rfl, rfl, rfl, rfl, rfl, rfl, rfl, rfl, rfl, rfl, rfl, rfl, rfl, rfl, rfl, rfl, rfl, rfl, rfl, rfl, rfl, rfl, rfl, rfl, rfl, rfl, rfl, rfl, rfl, trivial⟩ ?_
          replace hb := hb.lh k2; replace hr := hr.lh k2
          have hmask : bits .and .i64 (num (rest.take 1)) 63 = num (rest.take 1) % 64 := by exact eB 6 (by decide) (hnb 1 (by decide)).1 (hnb 1 (by decide)).2
          rw [hmask]
          refine aY ?_
          refine aY ?_
          refine aX ?_
          refine ogm rfl rfl ?_
          refine a4 (dr rfl rfl) rfl ?_
          refine ogm rfl rfl ?_
          refine al 50 true rfl (fun c1 hgc1 => ?_)
          refine a5 [(2, _)] (aa rfl rfl rfl hgc1) ⟨au rfl, trivial⟩ (fun hw1 => av rfl) rfl ?_
          refine a5 [(3, _)] (aa rfl rfl rfl hgc1) ⟨au rfl, trivial⟩ (fun hw2 => av rfl) rfl ?_
          refine a5 [(52, _)] (aa rfl rfl rfl hgc1) ⟨ae rfl, trivial⟩ (fun hw3 => ak (j := 4) (cJ rfl rfl) (by decide)) rfl ?_
          refine a5 [(53, _)] (aa rfl rfl rfl hgc1) ⟨ae rfl, trivial⟩ (fun hw4 => ak (j := 2) (bV rfl rfl) (by decide)) rfl ?_
          refine a5 [(51, _), (54, _)] (aa rfl rfl rfl hgc1) ⟨ae rfl, ae rfl, trivial⟩ (fun hw5 => ef (m := 4) rfl rfl (by decide) (by decide)) rfl ?_
          refine a5 [(55, _)] (aa rfl rfl rfl hgc1) ⟨ae rfl, trivial⟩ (fun hw6 => bF rfl rfl) rfl ?_
          refine a4 (ax rfl rfl hgc1) rfl ?_
          refine aZ ?_
          refine bH rfl (fun hc4 => ?_) (fun hc4 => ?_)
          · -- yes
            have hd1 := hc4
            try (simp only [Bool.and_eq_true, Bool.or_eq_true, decide_eq_true_eq, Bool.and_eq_false_iff, Bool.or_eq_false_iff, decide_eq_false_iff_not, Bool.not_eq_true', Bool.not_eq_false', Bool.not_eq_true, Bool.not_eq_false, ne_eq, Decidable.not_not, decide_true, decide_false, Bool.true_and, Bool.false_and, Bool.or_false, Bool.false_or, not_true_eq_false, false_or, or_false, true_and, and_true, not_false_eq_true, reduceCtorEq] at hd1)
            refine aY ?_
            refine aX ?_
            refine ogm rfl rfl ?_
            refine oga rfl rfl ?_
            refine a4 (ai rfl) rfl ?_
            refine a4 (ay aE rfl dC (by decide) rfl) rfl ?_
            refine am (bQ dC rfl rfl rfl hb rfl) ?_
            rintro _ w3 ⟨hq2, k3, z2⟩
            have hR : RdrQ Q w3 p rest 21 := RdrQ.setE hq2 hr hn k3
            replace hB := hB.trans k3
            refine aZ ?_
            refine cU rfl ?_
            refine aY ?_
            refine a8 ?_
            refine aY ?_
            refine aX ?_
            refine ogm rfl rfl ?_
            refine oga rfl rfl ?_
            refine aZ ?_
            refine af hfin Tryd.results57 rfl ?_
            refine ⟨(0, rest, 21), ?_, rfl, hR, hB⟩
            unfold rLen
            try rw [htop]
            try simp only [Nat.reducePow, Nat.reduceMul, Nat.reduceSub, Int.reducePow]
            repeat (first | rw [if_pos (by assumption)] | rw [if_neg (by assumption)] | rw [if_pos (by omega)] | rw [if_neg (by omega)])
            all_goals first | rfl | (refine Prod.ext rfl (Prod.ext rfl ?_); show _ = _; dsimp only; omega)
          · -- no
            have hd2 := hc4
            try (simp only [Bool.and_eq_true, Bool.or_eq_true, decide_eq_true_eq, Bool.and_eq_false_iff, Bool.or_eq_false_iff, decide_eq_false_iff_not, Bool.not_eq_true', Bool.not_eq_false', Bool.not_eq_true, Bool.not_eq_false, ne_eq, Decidable.not_not, decide_true, decide_false, Bool.true_and, Bool.false_and, Bool.or_false, Bool.false_or, not_true_eq_false, false_or, or_false, true_and, and_true, not_false_eq_true, reduceCtorEq] at hd2)
            refine a8 ?_
            refine aY ?_
            refine aX ?_
            refine ogm rfl rfl ?_
            refine ogm rfl rfl ?_
            refine a4 (ai rfl) rfl ?_
            refine a4 (ay aE rfl az (by decide) rfl) rfl ?_
            refine a4 (ac ba rfl (by assumption) rfl) rfl ?_
            refine ogm rfl rfl ?_
            refine a4 (ek aA bu rfl (by first | assumption | exact Own.rd (by assumption) | exact Rd.lh (by assumption) hB | exact Own.rd (Own.lh (by assumption) hB)) (.inr ⟨_, _, rfl, rfl⟩) (.inl ⟨rfl, rfl⟩) ⟨by omega, by omega, by omega⟩) rfl ?_
            refine a4 (ai rfl) rfl ?_
            refine a4 (ay aE rfl az (by decide) rfl) rfl ?_
            refine am (bQ az rfl rfl hr.cutOne hb rfl) ?_
            rintro _ w4 ⟨hq3, k4, z3⟩
            have hR : RdrQ Q w4 p (rest.drop (1 : Int).toNat) e := RdrQ.setB hq3 hr hn k4 (by omega) (by omega)
            replace hB := hB.trans k4
            refine aZ ?_
            refine aY ?_
            refine cX ?_
            refine aY ?_
            refine aX ?_
            refine ogm rfl rfl ?_
            refine oga rfl rfl ?_
            refine aZ ?_
            refine af hfin Tryd.results57 rfl ?_
            refine ⟨(num (rest.take 1) % 64, rest.drop (1 : Int).toNat, e), ?_, rfl, hR, hB⟩
            unfold rLen
            try rw [htop]
            try simp only [Nat.reducePow, Nat.reduceMul, Nat.reduceSub, Int.reducePow]
            repeat (first | rw [if_pos (by assumption)] | rw [if_neg (by assumption)] | rw [if_pos (by omega)] | rw [if_neg (by omega)])
            all_goals first | rfl | (refine Prod.ext rfl (Prod.ext rfl ?_); show _ = _; dsimp only; omega)
      · have htop : top rest = 1 := by omega
        rw [hq]
        refine aX ?_
        refine ogm rfl rfl ?_
        refine a4 (ak (j := 2) (cz rfl rfl (by decide)) (by decide)) rfl ?_
        refine oga rfl rfl ?_
        refine aZ ?_
        refine aY ?_
        refine aY ?_
        refine aX ?_
        refine ogm rfl rfl ?_
        refine a4 (bF rfl rfl) rfl ?_
        refine aZ ?_
        refine co rfl (by decide) ?_
        refine a8 ?_
        refine aY ?_
        refine aY ?_
        refine aX ?_
        refine ogm rfl rfl ?_
        refine a4 (ai rfl) rfl ?_
        refine a4 (ay aE rfl az (by decide) rfl) rfl ?_
        refine a4 (ac ba rfl (by assumption) rfl) rfl ?_
        refine a4 (bI aA rfl (by first | assumption | exact Own.rd (by assumption) | exact Rd.lh (by assumption) hB | exact Own.rd (Own.lh (by assumption) hB))) rfl ?_
        refine ogm rfl rfl ?_
        refine a4 (bO rfl rfl) rfl ?_
        refine aZ ?_
        refine ar rfl (fun hc5 => ?_) (fun hc5 => ?_)
        · -- yes
          refine aY ?_
          refine aX ?_
          refine ogm rfl rfl ?_
          refine a4 (ai rfl) rfl ?_
          refine a4 (ay aE rfl dC (by decide) rfl) rfl ?_
          refine am (bQ dC rfl rfl rfl hb rfl) ?_
          rintro _ w5 ⟨hq4, k5, z4⟩
          have hR : RdrQ Q w5 p rest 20 := RdrQ.setE hq4 hr hn k5
          replace hB := hB.trans k5
          refine aZ ?_
          refine cU rfl ?_
          refine aY ?_
          refine a8 ?_
          refine aY ?_
          refine aX ?_
          refine ogm rfl rfl ?_
          refine oga rfl rfl ?_
          refine aZ ?_
          refine af hfin Tryd.results57 rfl ?_
          refine ⟨(0, rest, 20), ?_, rfl, hR, hB⟩
          unfold rLen
          try rw [htop]
          try simp only [Nat.reducePow, Nat.reduceMul, Nat.reduceSub, Int.reducePow]
          repeat (first | rw [if_pos (by assumption)] | rw [if_neg (by assumption)] | rw [if_pos (by omega)] | rw [if_neg (by omega)])
          all_goals first | rfl | (refine Prod.ext rfl (Prod.ext rfl ?_); show _ = _; dsimp only; omega)
        · -- no
          refine a8 ?_
          refine aY ?_
          refine el mixed [(0, _), (3, _), (5, _), (6, _), (7, _), (4, _), (8, _), (9, _), (10, _), (11, _), (12, _), (13, _), (14, _), (15, _), (16, _), (17, _), (18, _), (19, _), (20, _), (21, _), (22, _), (23, _), (24, _), (25, _), (29, _), (30, _), (31, _), (32, _), (33, _), (34, _), (35, _)] (fun jj v W => match jj with | 0 => v = .pointer (some ⟨p, 0, none⟩) | 1 => v = .int .i64 2 | 2 => v = .int .i64 (num (rest.take 2)) | 3 => v = .int .i64 2 | 4 => v = .int .i64 16 | 5 => v = .int .i64 14 | 6 => v = .int .i64 16384 | 7 => v = .int .i64 16383 | 8 => v = .int .i64 (bits .and .i64 (num (rest.take 2)) 16383) | 9 => v = .int .i64 (bits .and .i64 (num (rest.take 2)) 16383) | _ => True) ⟨rfl, rfl, rfl, rfl, rfl, rfl, rfl, rfl, rfl, rfl, rfl, rfl, rfl, rfl, rfl, rfl, rfl, rfl, rfl, rfl, rfl, rfl, rfl, rfl, rfl, rfl, rfl, rfl, rfl, rfl, rfl, trivial⟩ (by decide) rfl ?_ ?_ ?_
          · intro jj v W W' h k
            match jj, h with
            | 0, h => exact h
            | 1, h => exact h
            | 2, h => exact h
            | 3, h => exact h
            | 4, h => exact h
            | 5, h => exact h
            | 6, h => exact h
            | 7, h => exact h
            | 8, h => exact h
            | 9, h => exact h
            | _ + 10, _ => trivial
          · refine ⟨?_, ?_, ?_, ?_, ?_, ?_, ?_, ?_, ?_, ?_, trivial⟩
            · refine ⟨[], rfl, ?_⟩; rintro W1 hk vs hd
              replace hB := hB.trans hk.weak
              refine ⟨true, fun a _ => rfl, fun _ => ?_, fun h => by cases h⟩
              refine a6 [(0, _)] ⟨rfl, trivial⟩ ?_
              refine (Gives.does (av rfl)).mono ?_
              rintro v W2 ⟨rfl, rfl⟩
              exact ⟨Keep.refl _ _, rfl⟩
            · refine ⟨[], rfl, ?_⟩; rintro W1 hk vs hd
              replace hB := hB.trans hk.weak
              refine ⟨true, fun a _ => rfl, fun _ => ?_, fun h => by cases h⟩
              refine a6 [(3, _)] ⟨rfl, trivial⟩ ?_
              refine (Gives.does (av rfl)).mono ?_
              rintro v W2 ⟨rfl, rfl⟩
              exact ⟨Keep.refl _ _, rfl⟩
            · refine ⟨[0, 1], rfl, ?_⟩; rintro W1 hk vs hd
              have d0 : (vs 0) = .pointer (some ⟨p, 0, none⟩) := hd 0 (by decide)
              have d1 : (vs 1) = .int .i64 2 := hd 1 (by decide)
              replace hB := hB.trans hk.weak
              refine ⟨true, fun a _ => rfl, fun _ => ?_, fun h => by cases h⟩
              refine a6 [(39, .pointer (some ⟨p, 0, none⟩)), (40, .int .i64 2)] ⟨congrArg some d0, congrArg some d1, trivial⟩ ?_
              refine (a7 (vs := [_, _]) rfl (f5 _ rest e _ W1 (RdrQ.lh (by exact ⟨bw, hb, hr, hn⟩) hk) (by omega) (by omega))).mono ?_
              rintro v W2 ⟨rfl, rfl⟩
              exact ⟨Keep.refl _ _, rfl⟩
            · refine ⟨[], rfl, ?_⟩; rintro W1 hk vs hd
              replace hB := hB.trans hk.weak
              refine ⟨true, fun a _ => rfl, fun _ => ?_, fun h => by cases h⟩
              refine a6 [(3, _)] ⟨rfl, trivial⟩ ?_
              refine (Gives.does (av rfl)).mono ?_
              rintro v W2 ⟨rfl, rfl⟩
              exact ⟨Keep.refl _ _, rfl⟩
            · refine ⟨[3], rfl, ?_⟩; rintro W1 hk vs hd
              have d3 : (vs 3) = .int .i64 2 := hd 3 (by decide)
              replace hB := hB.trans hk.weak
              refine ⟨true, fun a _ => rfl, fun _ => ?_, fun h => by cases h⟩
              refine a6 [(42, .int .i64 2)] ⟨congrArg some d3, trivial⟩ ?_
              refine (Gives.does (ak (j := 16) (cJ rfl rfl) (by decide))).mono ?_
              rintro v W2 ⟨rfl, rfl⟩
              exact ⟨Keep.refl _ _, rfl⟩
            · refine ⟨[4], rfl, ?_⟩; rintro W1 hk vs hd
              have d4 : (vs 4) = .int .i64 16 := hd 4 (by decide)
              replace hB := hB.trans hk.weak
              refine ⟨true, fun a _ => rfl, fun _ => ?_, fun h => by cases h⟩
              refine a6 [(43, .int .i64 16)] ⟨congrArg some d4, trivial⟩ ?_
              refine (Gives.does (ak (j := 14) (bV rfl rfl) (by decide))).mono ?_
              rintro v W2 ⟨rfl, rfl⟩
              exact ⟨Keep.refl _ _, rfl⟩
            · refine ⟨[5], rfl, ?_⟩; rintro W1 hk vs hd
              have d5 : (vs 5) = .int .i64 14 := hd 5 (by decide)
              replace hB := hB.trans hk.weak
              refine ⟨true, fun a _ => rfl, fun _ => ?_, fun h => by cases h⟩
              refine a6 [(44, .int .i64 14)] ⟨congrArg some d5, trivial⟩ ?_
              refine (Gives.does (ak (j := 16384) (cz rfl rfl (by decide)) (by decide))).mono ?_
              rintro v W2 ⟨rfl, rfl⟩
              exact ⟨Keep.refl _ _, rfl⟩
            · refine ⟨[6], rfl, ?_⟩; rintro W1 hk vs hd
              have d6 : (vs 6) = .int .i64 16384 := hd 6 (by decide)
              replace hB := hB.trans hk.weak
              refine ⟨true, fun a _ => rfl, fun _ => ?_, fun h => by cases h⟩
              refine a6 [(45, .int .i64 16384)] ⟨congrArg some d6, trivial⟩ ?_
              refine (Gives.does (ak (j := 16383) (bV rfl rfl) (by decide))).mono ?_
              rintro v W2 ⟨rfl, rfl⟩
              exact ⟨Keep.refl _ _, rfl⟩
            · refine ⟨[2, 7], rfl, ?_⟩; rintro W1 hk vs hd
              have d2 : (vs 2) = .int .i64 (num (rest.take 2)) := hd 2 (by decide)
              have d7 : (vs 7) = .int .i64 16383 := hd 7 (by decide)
              replace hB := hB.trans hk.weak
              refine ⟨true, fun a _ => rfl, fun _ => ?_, fun h => by cases h⟩
              refine a6 [(41, .int .i64 (num (rest.take 2))), (46, .int .i64 16383)] ⟨congrArg some d2, congrArg some d7, trivial⟩ ?_
              refine (Gives.does (ei rfl rfl)).mono ?_
              rintro v W2 ⟨rfl, rfl⟩
              exact ⟨Keep.refl _ _, rfl⟩
            · refine ⟨[8], rfl, ?_⟩; rintro W1 hk vs hd
              have d8 : (vs 8) = .int .i64 (bits .and .i64 (num (rest.take 2)) 16383) := hd 8 (by decide)
              replace hB := hB.trans hk.weak
              refine ⟨true, fun a _ => rfl, fun _ => ?_, fun h => by cases h⟩
              refine a6 [(47, .int .i64 (bits .and .i64 (num (rest.take 2)) 16383))] ⟨congrArg some d8, trivial⟩ ?_
              refine (Gives.does (ft rfl)).mono ?_
              rintro v W2 ⟨rfl, rfl⟩
              exact ⟨Keep.refl _ _, rfl⟩
          rintro w6 k6 vs hv
          have z_k6 := k6.size
          replace hB := hB.trans k6.weak
          have e2 : (vs 9) = .int .i64 (bits .and .i64 (num (rest.take 2)) 16383) := hv 9 (by decide) rfl
          refine ab [(2, .int .i64 (bits .and .i64 (num (rest.take 2)) 16383)), (0, _), (3, _), (5, _), (6, _), (7, _), (4, _), (8, _), (9, _), (10, _), (11, _), (12, _), (13, _), (14, _), (15, _), (16, _), (17, _), (18, _), (19, _), (20, _), (21, _), (22, _), (23, _), (24, _), (25, _), (29, _), (30, _), (31, _), (32, _), (33, _), (34, _), (35, _)] ⟨congrArg some e2, rfl, rfl, rfl, rfl, rfl, rfl, rfl, rfl, rfl, rfl, rfl, rfl, rfl, rfl, rfl, rfl, rfl, rfl, rfl, rfl, rfl, rfl, rfl, rfl, rfl, rfl, rfl, rfl, rfl, rfl, rfl, trivial⟩ ?_
          replace hb := hb.lh k6; replace hr := hr.lh k6
          have hmask : bits .and .i64 (num (rest.take 2)) 16383 = num (rest.take 2) % 16384 := by exact eB 14 (by decide) (hnb 2 (by decide)).1 (hnb 2 (by decide)).2
          rw [hmask]
          refine aY ?_
          refine aY ?_
          refine aX ?_
          refine ogm rfl rfl ?_
          refine a4 (dr rfl rfl) rfl ?_
          refine ogm rfl rfl ?_
          refine al 50 true rfl (fun c2 hgc2 => ?_)
          refine a5 [(2, _)] (aa rfl rfl rfl hgc2) ⟨au rfl, trivial⟩ (fun hw7 => av rfl) rfl ?_
          refine a5 [(3, _)] (aa rfl rfl rfl hgc2) ⟨au rfl, trivial⟩ (fun hw8 => av rfl) rfl ?_
          refine a5 [(52, _)] (aa rfl rfl rfl hgc2) ⟨ae rfl, trivial⟩ (fun hw9 => ak (j := 8) (cJ rfl rfl) (by decide)) rfl ?_
          refine a5 [(53, _)] (aa rfl rfl rfl hgc2) ⟨ae rfl, trivial⟩ (fun hw10 => ak (j := 6) (bV rfl rfl) (by decide)) rfl ?_
          refine a5 [(51, _), (54, _)] (aa rfl rfl rfl hgc2) ⟨ae rfl, ae rfl, trivial⟩ (fun hw11 => ef (m := 64) rfl rfl (by decide) (by decide)) rfl ?_
          refine a5 [(55, _)] (aa rfl rfl rfl hgc2) ⟨ae rfl, trivial⟩ (fun hw12 => bF rfl rfl) rfl ?_
          refine a4 (ax rfl rfl hgc2) rfl ?_
          refine aZ ?_
          refine bH rfl (fun hc6 => ?_) (fun hc6 => ?_)
          · -- yes
            have hd3 := hc6
            try (simp only [Bool.and_eq_true, Bool.or_eq_true, decide_eq_true_eq, Bool.and_eq_false_iff, Bool.or_eq_false_iff, decide_eq_false_iff_not, Bool.not_eq_true', Bool.not_eq_false', Bool.not_eq_true, Bool.not_eq_false, ne_eq, Decidable.not_not, decide_true, decide_false, Bool.true_and, Bool.false_and, Bool.or_false, Bool.false_or, not_true_eq_false, false_or, or_false, true_and, and_true, not_false_eq_true, reduceCtorEq] at hd3)
            refine aY ?_
            refine aX ?_
            refine ogm rfl rfl ?_
            refine oga rfl rfl ?_
            refine a4 (ai rfl) rfl ?_
            refine a4 (ay aE rfl dC (by decide) rfl) rfl ?_
            refine am (bQ dC rfl rfl rfl hb rfl) ?_
            rintro _ w7 ⟨hq5, k7, z5⟩
            have hR : RdrQ Q w7 p rest 21 := RdrQ.setE hq5 hr hn k7
            replace hB := hB.trans k7
            refine aZ ?_
            refine cU rfl ?_
            refine aY ?_
            refine a8 ?_
            refine aY ?_
            refine aX ?_
            refine ogm rfl rfl ?_
            refine oga rfl rfl ?_
            refine aZ ?_
            refine af hfin Tryd.results57 rfl ?_
            refine ⟨(0, rest, 21), ?_, rfl, hR, hB⟩
            unfold rLen
            try rw [htop]
            try simp only [Nat.reducePow, Nat.reduceMul, Nat.reduceSub, Int.reducePow]
            repeat (first | rw [if_pos (by assumption)] | rw [if_neg (by assumption)] | rw [if_pos (by omega)] | rw [if_neg (by omega)])
            all_goals first | rfl | (refine Prod.ext rfl (Prod.ext rfl ?_); show _ = _; dsimp only; omega)
          · -- no
            have hd4 := hc6
            try (simp only [Bool.and_eq_true, Bool.or_eq_true, decide_eq_true_eq, Bool.and_eq_false_iff, Bool.or_eq_false_iff, decide_eq_false_iff_not, Bool.not_eq_true', Bool.not_eq_false', Bool.not_eq_true, Bool.not_eq_false, ne_eq, Decidable.not_not, decide_true, decide_false, Bool.true_and, Bool.false_and, Bool.or_false, Bool.false_or, not_true_eq_false, false_or, or_false, true_and, and_true, not_false_eq_true, reduceCtorEq] at hd4)
            refine a8 ?_
            refine aY ?_
            refine aX ?_
            refine ogm rfl rfl ?_
            refine ogm rfl rfl ?_
            refine a4 (ai rfl) rfl ?_
            refine a4 (ay aE rfl az (by decide) rfl) rfl ?_
            refine a4 (ac ba rfl (by assumption) rfl) rfl ?_
            refine ogm rfl rfl ?_
            refine a4 (ek aA bu rfl (by first | assumption | exact Own.rd (by assumption) | exact Rd.lh (by assumption) hB | exact Own.rd (Own.lh (by assumption) hB)) (.inr ⟨_, _, rfl, rfl⟩) (.inl ⟨rfl, rfl⟩) ⟨by omega, by omega, by omega⟩) rfl ?_
            refine a4 (ai rfl) rfl ?_
            refine a4 (ay aE rfl az (by decide) rfl) rfl ?_
            refine am (bQ az rfl rfl hr.cutOne hb rfl) ?_
            rintro _ w8 ⟨hq6, k8, z6⟩
            have hR : RdrQ Q w8 p (rest.drop (2 : Int).toNat) e := RdrQ.setB hq6 hr hn k8 (by omega) (by omega)
            replace hB := hB.trans k8
            refine aZ ?_
            refine aY ?_
            refine cX ?_
            refine aY ?_
            refine aX ?_
            refine ogm rfl rfl ?_
            refine oga rfl rfl ?_
            refine aZ ?_
            refine af hfin Tryd.results57 rfl ?_
            refine ⟨(num (rest.take 2) % 16384, rest.drop (2 : Int).toNat, e), ?_, rfl, hR, hB⟩
            unfold rLen
            try rw [htop]
            try simp only [Nat.reducePow, Nat.reduceMul, Nat.reduceSub, Int.reducePow]
            repeat (first | rw [if_pos (by assumption)] | rw [if_neg (by assumption)] | rw [if_pos (by omega)] | rw [if_neg (by omega)])
            all_goals first | rfl | (refine Prod.ext rfl (Prod.ext rfl ?_); show _ = _; dsimp only; omega)
      · have htop : top rest = 2 := by omega
        rw [hq]
        refine aX ?_
        refine ogm rfl rfl ?_
        refine a4 (ak (j := 4) (cz rfl rfl (by decide)) (by decide)) rfl ?_
        refine oga rfl rfl ?_
        refine aZ ?_
        refine aY ?_
        refine aY ?_
        refine aX ?_
        refine ogm rfl rfl ?_
        refine a4 (bF rfl rfl) rfl ?_
        refine aZ ?_
        refine co rfl (by decide) ?_
        refine a8 ?_
        refine aY ?_
        refine aY ?_
        refine aX ?_
        refine ogm rfl rfl ?_
        refine a4 (ai rfl) rfl ?_
        refine a4 (ay aE rfl az (by decide) rfl) rfl ?_
        refine a4 (ac ba rfl (by assumption) rfl) rfl ?_
        refine a4 (bI aA rfl (by first | assumption | exact Own.rd (by assumption) | exact Rd.lh (by assumption) hB | exact Own.rd (Own.lh (by assumption) hB))) rfl ?_
        refine ogm rfl rfl ?_
        refine a4 (bO rfl rfl) rfl ?_
        refine aZ ?_
        refine ar rfl (fun hc7 => ?_) (fun hc7 => ?_)
        · -- yes
          refine aY ?_
          refine aX ?_
          refine ogm rfl rfl ?_
          refine a4 (ai rfl) rfl ?_
          refine a4 (ay aE rfl dC (by decide) rfl) rfl ?_
          refine am (bQ dC rfl rfl rfl hb rfl) ?_
          rintro _ w9 ⟨hq7, k9, z7⟩
          have hR : RdrQ Q w9 p rest 20 := RdrQ.setE hq7 hr hn k9
          replace hB := hB.trans k9
          refine aZ ?_
          refine cU rfl ?_
          refine aY ?_
          refine a8 ?_
          refine aY ?_
          refine aX ?_
          refine ogm rfl rfl ?_
          refine oga rfl rfl ?_
          refine aZ ?_
          refine af hfin Tryd.results57 rfl ?_
          refine ⟨(0, rest, 20), ?_, rfl, hR, hB⟩
          unfold rLen
          try rw [htop]
          try simp only [Nat.reducePow, Nat.reduceMul, Nat.reduceSub, Int.reducePow]
          repeat (first | rw [if_pos (by assumption)] | rw [if_neg (by assumption)] | rw [if_pos (by omega)] | rw [if_neg (by omega)])
          all_goals first | rfl | (refine Prod.ext rfl (Prod.ext rfl ?_); show _ = _; dsimp only; omega)
        · -- no
          refine a8 ?_
          refine aY ?_
          refine el mixed [(0, _), (3, _), (5, _), (6, _), (7, _), (4, _), (8, _), (9, _), (10, _), (11, _), (12, _), (13, _), (14, _), (15, _), (16, _), (17, _), (18, _), (19, _), (20, _), (21, _), (22, _), (23, _), (24, _), (25, _), (29, _), (30, _), (31, _), (32, _), (33, _), (34, _), (35, _)] (fun jj v W => match jj with | 0 => v = .pointer (some ⟨p, 0, none⟩) | 1 => v = .int .i64 4 | 2 => v = .int .i64 (num (rest.take 4)) | 3 => v = .int .i64 4 | 4 => v = .int .i64 32 | 5 => v = .int .i64 30 | 6 => v = .int .i64 1073741824 | 7 => v = .int .i64 1073741823 | 8 => v = .int .i64 (bits .and .i64 (num (rest.take 4)) 1073741823) | 9 => v = .int .i64 (bits .and .i64 (num (rest.take 4)) 1073741823) | _ => True) ⟨rfl, rfl, rfl, rfl, rfl, rfl, rfl, rfl, rfl, rfl, rfl, rfl, rfl, rfl, rfl, rfl, rfl, rfl, rfl, rfl, rfl, rfl, rfl, rfl, rfl, rfl, rfl, rfl, rfl, rfl, rfl, trivial⟩ (by decide) rfl ?_ ?_ ?_
          · intro jj v W W' h k
            match jj, h with
            | 0, h => exact h
            | 1, h => exact h
            | 2, h => exact h
            | 3, h => exact h
            | 4, h => exact h
            | 5, h => exact h
            | 6, h => exact h
            | 7, h => exact h
            | 8, h => exact h
            | 9, h => exact h
            | _ + 10, _ => trivial
          · refine ⟨?_, ?_, ?_, ?_, ?_, ?_, ?_, ?_, ?_, ?_, trivial⟩
            · refine ⟨[], rfl, ?_⟩; rintro W1 hk vs hd
              replace hB := hB.trans hk.weak
              refine ⟨true, fun a _ => rfl, fun _ => ?_, fun h => by cases h⟩
              refine a6 [(0, _)] ⟨rfl, trivial⟩ ?_
              refine (Gives.does (av rfl)).mono ?_
              rintro v W2 ⟨rfl, rfl⟩
              exact ⟨Keep.refl _ _, rfl⟩
            · refine ⟨[], rfl, ?_⟩; rintro W1 hk vs hd
              replace hB := hB.trans hk.weak
              refine ⟨true, fun a _ => rfl, fun _ => ?_, fun h => by cases h⟩
              refine a6 [(3, _)] ⟨rfl, trivial⟩ ?_
              refine (Gives.does (av rfl)).mono ?_
              rintro v W2 ⟨rfl, rfl⟩
              exact ⟨Keep.refl _ _, rfl⟩
            · refine ⟨[0, 1], rfl, ?_⟩; rintro W1 hk vs hd
              have d0 : (vs 0) = .pointer (some ⟨p, 0, none⟩) := hd 0 (by decide)
              have d1 : (vs 1) = .int .i64 4 := hd 1 (by decide)
              replace hB := hB.trans hk.weak
              refine ⟨true, fun a _ => rfl, fun _ => ?_, fun h => by cases h⟩
              refine a6 [(39, .pointer (some ⟨p, 0, none⟩)), (40, .int .i64 4)] ⟨congrArg some d0, congrArg some d1, trivial⟩ ?_
              refine (a7 (vs := [_, _]) rfl (f5 _ rest e _ W1 (RdrQ.lh (by exact ⟨bw, hb, hr, hn⟩) hk) (by omega) (by omega))).mono ?_
              rintro v W2 ⟨rfl, rfl⟩
              exact ⟨Keep.refl _ _, rfl⟩
            · refine ⟨[], rfl, ?_⟩; rintro W1 hk vs hd
              replace hB := hB.trans hk.weak
              refine ⟨true, fun a _ => rfl, fun _ => ?_, fun h => by cases h⟩
              refine a6 [(3, _)] ⟨rfl, trivial⟩ ?_
              refine (Gives.does (av rfl)).mono ?_
              rintro v W2 ⟨rfl, rfl⟩
              exact ⟨Keep.refl _ _, rfl⟩
            · refine ⟨[3], rfl, ?_⟩; rintro W1 hk vs hd
              have d3 : (vs 3) = .int .i64 4 := hd 3 (by decide)
              replace hB := hB.trans hk.weak
              refine ⟨true, fun a _ => rfl, fun _ => ?_, fun h => by cases h⟩
              refine a6 [(42, .int .i64 4)] ⟨congrArg some d3, trivial⟩ ?_
              refine (Gives.does (ak (j := 32) (cJ rfl rfl) (by decide))).mono ?_
              rintro v W2 ⟨rfl, rfl⟩
              exact ⟨Keep.refl _ _, rfl⟩
            · refine ⟨[4], rfl, ?_⟩; rintro W1 hk vs hd
              have d4 : (vs 4) = .int .i64 32 := hd 4 (by decide)
              replace hB := hB.trans hk.weak
              refine ⟨true, fun a _ => rfl, fun _ => ?_, fun h => by cases h⟩
              refine a6 [(43, .int .i64 32)] ⟨congrArg some d4, trivial⟩ ?_
              refine (Gives.does (ak (j := 30) (bV rfl rfl) (by decide))).mono ?_
              rintro v W2 ⟨rfl, rfl⟩
              exact ⟨Keep.refl _ _, rfl⟩
            · refine ⟨[5], rfl, ?_⟩; rintro W1 hk vs hd
              have d5 : (vs 5) = .int .i64 30 := hd 5 (by decide)
              replace hB := hB.trans hk.weak
              refine ⟨true, fun a _ => rfl, fun _ => ?_, fun h => by cases h⟩
              refine a6 [(44, .int .i64 30)] ⟨congrArg some d5, trivial⟩ ?_
              refine (Gives.does (ak (j := 1073741824) (cz rfl rfl (by decide)) (by decide))).mono ?_
              rintro v W2 ⟨rfl, rfl⟩
              exact ⟨Keep.refl _ _, rfl⟩
            · refine ⟨[6], rfl, ?_⟩; rintro W1 hk vs hd
              have d6 : (vs 6) = .int .i64 1073741824 := hd 6 (by decide)
              replace hB := hB.trans hk.weak
              refine ⟨true, fun a _ => rfl, fun _ => ?_, fun h => by cases h⟩
              refine a6 [(45, .int .i64 1073741824)] ⟨congrArg some d6, trivial⟩ ?_
              refine (Gives.does (ak (j := 1073741823) (bV rfl rfl) (by decide))).mono ?_
              rintro v W2 ⟨rfl, rfl⟩
              exact ⟨Keep.refl _ _, rfl⟩
            · refine ⟨[2, 7], rfl, ?_⟩; rintro W1 hk vs hd
              have d2 : (vs 2) = .int .i64 (num (rest.take 4)) := hd 2 (by decide)
              have d7 : (vs 7) = .int .i64 1073741823 := hd 7 (by decide)
              replace hB := hB.trans hk.weak
              refine ⟨true, fun a _ => rfl, fun _ => ?_, fun h => by cases h⟩
              refine a6 [(41, .int .i64 (num (rest.take 4))), (46, .int .i64 1073741823)] ⟨congrArg some d2, congrArg some d7, trivial⟩ ?_
              refine (Gives.does (ei rfl rfl)).mono ?_
              rintro v W2 ⟨rfl, rfl⟩
              exact ⟨Keep.refl _ _, rfl⟩
            · refine ⟨[8], rfl, ?_⟩; rintro W1 hk vs hd
              have d8 : (vs 8) = .int .i64 (bits .and .i64 (num (rest.take 4)) 1073741823) := hd 8 (by decide)
              replace hB := hB.trans hk.weak
              refine ⟨true, fun a _ => rfl, fun _ => ?_, fun h => by cases h⟩
              refine a6 [(47, .int .i64 (bits .and .i64 (num (rest.take 4)) 1073741823))] ⟨congrArg some d8, trivial⟩ ?_
              refine (Gives.does (ft rfl)).mono ?_
              rintro v W2 ⟨rfl, rfl⟩
              exact ⟨Keep.refl _ _, rfl⟩
          rintro w10 k10 vs hv
          have z_k10 := k10.size
          replace hB := hB.trans k10.weak
          have e2 : (vs 9) = .int .i64 (bits .and .i64 (num (rest.take 4)) 1073741823) := hv 9 (by decide) rfl
          refine ab [(2, .int .i64 (bits .and .i64 (num (rest.take 4)) 1073741823)), (0, _), (3, _), (5, _), (6, _), (7, _), (4, _), (8, _), (9, _), (10, _), (11, _), (12, _), (13, _), (14, _), (15, _), (16, _), (17, _), (18, _), (19, _), (20, _), (21, _), (22, _), (23, _), (24, _), (25, _), (29, _), (30, _), (31, _), (32, _), (33, _), (34, _), (35, _)] ⟨congrArg some e2, rfl, rfl, rfl, rfl, rfl, rfl, rfl, rfl, rfl, rfl, rfl, rfl, rfl, rfl, rfl, rfl, rfl, rfl, rfl, rfl, rfl, rfl, rfl, rfl, rfl, rfl, rfl, rfl, rfl, rfl, rfl, trivial⟩ ?_
          replace hb := hb.lh k10; replace hr := hr.lh k10
          have hmask : bits .and .i64 (num (rest.take 4)) 1073741823 = num (rest.take 4) % 1073741824 := by exact eB 30 (by decide) (hnb 4 (by decide)).1 (hnb 4 (by decide)).2
          rw [hmask]
          refine aY ?_
          refine aY ?_
          refine aX ?_
          refine ogm rfl rfl ?_
          refine a4 (dr rfl rfl) rfl ?_
          refine ogm rfl rfl ?_
          refine al 50 true rfl (fun c3 hgc3 => ?_)
          refine a5 [(2, _)] (aa rfl rfl rfl hgc3) ⟨au rfl, trivial⟩ (fun hw13 => av rfl) rfl ?_
          refine a5 [(3, _)] (aa rfl rfl rfl hgc3) ⟨au rfl, trivial⟩ (fun hw14 => av rfl) rfl ?_
          refine a5 [(52, _)] (aa rfl rfl rfl hgc3) ⟨ae rfl, trivial⟩ (fun hw15 => ak (j := 16) (cJ rfl rfl) (by decide)) rfl ?_
          refine a5 [(53, _)] (aa rfl rfl rfl hgc3) ⟨ae rfl, trivial⟩ (fun hw16 => ak (j := 14) (bV rfl rfl) (by decide)) rfl ?_
          refine a5 [(51, _), (54, _)] (aa rfl rfl rfl hgc3) ⟨ae rfl, ae rfl, trivial⟩ (fun hw17 => ef (m := 16384) rfl rfl (by decide) (by decide)) rfl ?_
          refine a5 [(55, _)] (aa rfl rfl rfl hgc3) ⟨ae rfl, trivial⟩ (fun hw18 => bF rfl rfl) rfl ?_
          refine a4 (ax rfl rfl hgc3) rfl ?_
          refine aZ ?_
          refine bH rfl (fun hc8 => ?_) (fun hc8 => ?_)
          · -- yes
            have hd5 := hc8
            try (simp only [Bool.and_eq_true, Bool.or_eq_true, decide_eq_true_eq, Bool.and_eq_false_iff, Bool.or_eq_false_iff, decide_eq_false_iff_not, Bool.not_eq_true', Bool.not_eq_false', Bool.not_eq_true, Bool.not_eq_false, ne_eq, Decidable.not_not, decide_true, decide_false, Bool.true_and, Bool.false_and, Bool.or_false, Bool.false_or, not_true_eq_false, false_or, or_false, true_and, and_true, not_false_eq_true, reduceCtorEq] at hd5)
            refine aY ?_
            refine aX ?_
            refine ogm rfl rfl ?_
            refine oga rfl rfl ?_
            refine a4 (ai rfl) rfl ?_
            refine a4 (ay aE rfl dC (by decide) rfl) rfl ?_
            refine am (bQ dC rfl rfl rfl hb rfl) ?_
            rintro _ w11 ⟨hq8, k11, z8⟩
            have hR : RdrQ Q w11 p rest 21 := RdrQ.setE hq8 hr hn k11
            replace hB := hB.trans k11
            refine aZ ?_
            refine cU rfl ?_
            refine aY ?_
            refine a8 ?_
            refine aY ?_
            refine aX ?_
            refine ogm rfl rfl ?_
            refine oga rfl rfl ?_
            refine aZ ?_
            refine af hfin Tryd.results57 rfl ?_
            refine ⟨(0, rest, 21), ?_, rfl, hR, hB⟩
            unfold rLen
            try rw [htop]
            try simp only [Nat.reducePow, Nat.reduceMul, Nat.reduceSub, Int.reducePow]
            repeat (first | rw [if_pos (by assumption)] | rw [if_neg (by assumption)] | rw [if_pos (by omega)] | rw [if_neg (by omega)])
            all_goals first | rfl | (refine Prod.ext rfl (Prod.ext rfl ?_); show _ = _; dsimp only; omega)
          · -- no
            have hd6 := hc8
            try (simp only [Bool.and_eq_true, Bool.or_eq_true, decide_eq_true_eq, Bool.and_eq_false_iff, Bool.or_eq_false_iff, decide_eq_false_iff_not, Bool.not_eq_true', Bool.not_eq_false', Bool.not_eq_true, Bool.not_eq_false, ne_eq, Decidable.not_not, decide_true, decide_false, Bool.true_and, Bool.false_and, Bool.or_false, Bool.false_or, not_true_eq_false, false_or, or_false, true_and, and_true, not_false_eq_true, reduceCtorEq] at hd6)
            refine a8 ?_
            refine aY ?_
            refine aX ?_
            refine ogm rfl rfl ?_
            refine ogm rfl rfl ?_
            refine a4 (ai rfl) rfl ?_
            refine a4 (ay aE rfl az (by decide) rfl) rfl ?_
            refine a4 (ac ba rfl (by assumption) rfl) rfl ?_
            refine ogm rfl rfl ?_
            refine a4 (ek aA bu rfl (by first | assumption | exact Own.rd (by assumption) | exact Rd.lh (by assumption) hB | exact Own.rd (Own.lh (by assumption) hB)) (.inr ⟨_, _, rfl, rfl⟩) (.inl ⟨rfl, rfl⟩) ⟨by omega, by omega, by omega⟩) rfl ?_
            refine a4 (ai rfl) rfl ?_
            refine a4 (ay aE rfl az (by decide) rfl) rfl ?_
            refine am (bQ az rfl rfl hr.cutOne hb rfl) ?_
            rintro _ w12 ⟨hq9, k12, z9⟩
            have hR : RdrQ Q w12 p (rest.drop (4 : Int).toNat) e := RdrQ.setB hq9 hr hn k12 (by omega) (by omega)
            replace hB := hB.trans k12
            refine aZ ?_
            refine aY ?_
            refine cX ?_
            refine aY ?_
            refine aX ?_
            refine ogm rfl rfl ?_
            refine oga rfl rfl ?_
            refine aZ ?_
            refine af hfin Tryd.results57 rfl ?_
            refine ⟨(num (rest.take 4) % 1073741824, rest.drop (4 : Int).toNat, e), ?_, rfl, hR, hB⟩
            unfold rLen
            try rw [htop]
            try simp only [Nat.reducePow, Nat.reduceMul, Nat.reduceSub, Int.reducePow]
            repeat (first | rw [if_pos (by assumption)] | rw [if_neg (by assumption)] | rw [if_pos (by omega)] | rw [if_neg (by omega)])
            all_goals first | rfl | (refine Prod.ext rfl (Prod.ext rfl ?_); show _ = _; dsimp only; omega)
      · have htop : top rest = 3 := by omega
        rw [hq]
        refine aX ?_
        refine ogm rfl rfl ?_
        refine a4 (ak (j := 8) (cz rfl rfl (by decide)) (by decide)) rfl ?_
        refine oga rfl rfl ?_
        refine aZ ?_
        refine aY ?_
        refine aY ?_
        refine aX ?_
        refine ogm rfl rfl ?_
        refine a4 (bF rfl rfl) rfl ?_
        refine aZ ?_
        refine bj rfl (by decide) ?_
        refine aY ?_
        refine aX ?_
        refine ogm rfl rfl ?_
        refine a4 (ai rfl) rfl ?_
        refine a4 (ay aE rfl dC (by decide) rfl) rfl ?_
        refine am (bQ dC rfl rfl rfl hb rfl) ?_
        rintro _ w13 ⟨hq10, k13, z10⟩
        have hR : RdrQ Q w13 p rest 21 := RdrQ.setE hq10 hr hn k13
        replace hB := hB.trans k13
        refine aZ ?_
        refine cU rfl ?_
        refine aY ?_
        refine a8 ?_
        refine aY ?_
        refine aX ?_
        refine ogm rfl rfl ?_
        refine oga rfl rfl ?_
        refine aZ ?_
        refine af hfin Tryd.results57 rfl ?_
        refine ⟨(0, rest, 21), ?_, rfl, hR, hB⟩
        unfold rLen
        try rw [htop]
        try simp only [Nat.reducePow, Nat.reduceMul, Nat.reduceSub, Int.reducePow]
        repeat (first | rw [if_pos (by assumption)] | rw [if_neg (by assumption)] | rw [if_pos (by omega)] | rw [if_neg (by omega)])
        all_goals first | rfl | (refine Prod.ext rfl (Prod.ext rfl ?_); show _ = _; dsimp only; omega)
    · -- no
      refine a8 ?_
      refine aY ?_
      refine aY ?_
      refine aX ?_
      refine ogm rfl rfl ?_
      refine a4 (bF rfl rfl) rfl ?_
      refine aZ ?_
      refine co rfl (by decide) ?_
      refine a8 ?_
      refine aY ?_
      refine aY ?_
      refine aX ?_
      refine ogm rfl rfl ?_
      refine a4 (ai rfl) rfl ?_
      refine a4 (ay aE rfl az (by decide) rfl) rfl ?_
      refine a4 (ac ba rfl (by assumption) rfl) rfl ?_
      refine a4 (bI aA rfl (by first | assumption | exact Own.rd (by assumption) | exact Rd.lh (by assumption) hB | exact Own.rd (Own.lh (by assumption) hB))) rfl ?_
      refine ogm rfl rfl ?_
      refine a4 (bO rfl rfl) rfl ?_
      refine aZ ?_
      refine ar rfl (fun hc9 => ?_) (fun hc9 => ?_)
      · -- yes
        refine aY ?_
        refine aX ?_
        refine ogm rfl rfl ?_
        refine a4 (ai rfl) rfl ?_
        refine a4 (ay aE rfl dC (by decide) rfl) rfl ?_
        refine am (bQ dC rfl rfl rfl hb rfl) ?_
        rintro _ w14 ⟨hq11, k14, z11⟩
        have hR : RdrQ Q w14 p rest 20 := RdrQ.setE hq11 hr hn k14
        replace hB := hB.trans k14
        refine aZ ?_
        refine cU rfl ?_
        refine aY ?_
        refine a8 ?_
        refine aY ?_
        refine aX ?_
        refine ogm rfl rfl ?_
        refine oga rfl rfl ?_
        refine aZ ?_
        refine af hfin Tryd.results57 rfl ?_
        have htop := htop0 (by omega)
        refine ⟨(0, rest, 20), ?_, rfl, hR, hB⟩
        unfold rLen
        try rw [htop]
        try simp only [Nat.reducePow, Nat.reduceMul, Nat.reduceSub, Int.reducePow]
        repeat (first | rw [if_pos (by assumption)] | rw [if_neg (by assumption)] | rw [if_pos (by omega)] | rw [if_neg (by omega)])
        all_goals first | rfl | (refine Prod.ext rfl (Prod.ext rfl ?_); show _ = _; dsimp only; omega)
      · -- no
        refine a8 ?_
        refine aY ?_
        refine el mixed [(0, _), (3, _), (5, _), (6, _), (7, _), (4, _), (8, _), (9, _), (10, _), (11, _), (12, _), (13, _), (24, _), (25, _), (29, _), (30, _), (31, _), (32, _), (33, _), (34, _), (35, _)] (fun jj v W => match jj with | 0 => v = .pointer (some ⟨p, 0, none⟩) | 1 => v = .int .i64 1 | 2 => v = .int .i64 (num (rest.take 1)) | 3 => v = .int .i64 1 | 4 => v = .int .i64 8 | 5 => v = .int .i64 6 | 6 => v = .int .i64 64 | 7 => v = .int .i64 63 | 8 => v = .int .i64 (bits .and .i64 (num (rest.take 1)) 63) | 9 => v = .int .i64 (bits .and .i64 (num (rest.take 1)) 63) | _ => True) ⟨rfl, rfl, rfl, rfl, rfl, rfl, rfl, rfl, rfl, rfl, rfl, rfl, rfl, rfl, rfl, rfl, rfl, rfl, rfl, rfl, rfl, trivial⟩ (by decide) rfl ?_ ?_ ?_
        · intro jj v W W' h k
          match jj, h with
          | 0, h => exact h
          | 1, h => exact h
          | 2, h => exact h
          | 3, h => exact h
          | 4, h => exact h
          | 5, h => exact h
          | 6, h => exact h
          | 7, h => exact h
          | 8, h => exact h
          | 9, h => exact h
          | _ + 10, _ => trivial
        · refine ⟨?_, ?_, ?_, ?_, ?_, ?_, ?_, ?_, ?_, ?_, trivial⟩
          · refine ⟨[], rfl, ?_⟩; rintro W1 hk vs hd
            replace hB := hB.trans hk.weak
            refine ⟨true, fun a _ => rfl, fun _ => ?_, fun h => by cases h⟩
            refine a6 [(0, _)] ⟨rfl, trivial⟩ ?_
            refine (Gives.does (av rfl)).mono ?_
            rintro v W2 ⟨rfl, rfl⟩
            exact ⟨Keep.refl _ _, rfl⟩
          · refine ⟨[], rfl, ?_⟩; rintro W1 hk vs hd
            replace hB := hB.trans hk.weak
            refine ⟨true, fun a _ => rfl, fun _ => ?_, fun h => by cases h⟩
            refine a6 [(3, _)] ⟨rfl, trivial⟩ ?_
            refine (Gives.does (av rfl)).mono ?_
            rintro v W2 ⟨rfl, rfl⟩
            exact ⟨Keep.refl _ _, rfl⟩
          · refine ⟨[0, 1], rfl, ?_⟩; rintro W1 hk vs hd
            have d0 : (vs 0) = .pointer (some ⟨p, 0, none⟩) := hd 0 (by decide)
            have d1 : (vs 1) = .int .i64 1 := hd 1 (by decide)
            replace hB := hB.trans hk.weak
            refine ⟨true, fun a _ => rfl, fun _ => ?_, fun h => by cases h⟩
            refine a6 [(39, .pointer (some ⟨p, 0, none⟩)), (40, .int .i64 1)] ⟨congrArg some d0, congrArg some d1, trivial⟩ ?_
            refine (a7 (vs := [_, _]) rfl (f5 _ rest e _ W1 (RdrQ.lh (by exact ⟨bw, hb, hr, hn⟩) hk) (by omega) (by omega))).mono ?_
            rintro v W2 ⟨rfl, rfl⟩
            exact ⟨Keep.refl _ _, rfl⟩
          · refine ⟨[], rfl, ?_⟩; rintro W1 hk vs hd
            replace hB := hB.trans hk.weak
            refine ⟨true, fun a _ => rfl, fun _ => ?_, fun h => by cases h⟩
            refine a6 [(3, _)] ⟨rfl, trivial⟩ ?_
            refine (Gives.does (av rfl)).mono ?_
            rintro v W2 ⟨rfl, rfl⟩
            exact ⟨Keep.refl _ _, rfl⟩
          · refine ⟨[3], rfl, ?_⟩; rintro W1 hk vs hd
            have d3 : (vs 3) = .int .i64 1 := hd 3 (by decide)
            replace hB := hB.trans hk.weak
            refine ⟨true, fun a _ => rfl, fun _ => ?_, fun h => by cases h⟩
            refine a6 [(42, .int .i64 1)] ⟨congrArg some d3, trivial⟩ ?_
            refine (Gives.does (ak (j := 8) (cJ rfl rfl) (by decide))).mono ?_
            rintro v W2 ⟨rfl, rfl⟩
            exact ⟨Keep.refl _ _, rfl⟩
          · refine ⟨[4], rfl, ?_⟩; rintro W1 hk vs hd
            have d4 : (vs 4) = .int .i64 8 := hd 4 (by decide)
            replace hB := hB.trans hk.weak
            refine ⟨true, fun a _ => rfl, fun _ => ?_, fun h => by cases h⟩
            refine a6 [(43, .int .i64 8)] ⟨congrArg some d4, trivial⟩ ?_
            refine (Gives.does (ak (j := 6) (bV rfl rfl) (by decide))).mono ?_
            rintro v W2 ⟨rfl, rfl⟩
            exact ⟨Keep.refl _ _, rfl⟩
          · refine ⟨[5], rfl, ?_⟩; rintro W1 hk vs hd
            have d5 : (vs 5) = .int .i64 6 := hd 5 (by decide)
            replace hB := hB.trans hk.weak
            refine ⟨true, fun a _ => rfl, fun _ => ?_, fun h => by cases h⟩
            refine a6 [(44, .int .i64 6)] ⟨congrArg some d5, trivial⟩ ?_
            refine (Gives.does (ak (j := 64) (cz rfl rfl (by decide)) (by decide))).mono ?_
            rintro v W2 ⟨rfl, rfl⟩
            exact ⟨Keep.refl _ _, rfl⟩
          · refine ⟨[6], rfl, ?_⟩; rintro W1 hk vs hd
            have d6 : (vs 6) = .int .i64 64 := hd 6 (by decide)
            replace hB := hB.trans hk.weak
            refine ⟨true, fun a _ => rfl, fun _ => ?_, fun h => by cases h⟩
            refine a6 [(45, .int .i64 64)] ⟨congrArg some d6, trivial⟩ ?_
            refine (Gives.does (ak (j := 63) (bV rfl rfl) (by decide))).mono ?_
            rintro v W2 ⟨rfl, rfl⟩
            exact ⟨Keep.refl _ _, rfl⟩
          · refine ⟨[2, 7], rfl, ?_⟩; rintro W1 hk vs hd
            have d2 : (vs 2) = .int .i64 (num (rest.take 1)) := hd 2 (by decide)
            have d7 : (vs 7) = .int .i64 63 := hd 7 (by decide)
            replace hB := hB.trans hk.weak
            refine ⟨true, fun a _ => rfl, fun _ => ?_, fun h => by cases h⟩
            refine a6 [(41, .int .i64 (num (rest.take 1))), (46, .int .i64 63)] ⟨congrArg some d2, congrArg some d7, trivial⟩ ?_
            refine (Gives.does (ei rfl rfl)).mono ?_
            rintro v W2 ⟨rfl, rfl⟩
            exact ⟨Keep.refl _ _, rfl⟩
          · refine ⟨[8], rfl, ?_⟩; rintro W1 hk vs hd
            have d8 : (vs 8) = .int .i64 (bits .and .i64 (num (rest.take 1)) 63) := hd 8 (by decide)
            replace hB := hB.trans hk.weak
            refine ⟨true, fun a _ => rfl, fun _ => ?_, fun h => by cases h⟩
            refine a6 [(47, .int .i64 (bits .and .i64 (num (rest.take 1)) 63))] ⟨congrArg some d8, trivial⟩ ?_
            refine (Gives.does (ft rfl)).mono ?_
            rintro v W2 ⟨rfl, rfl⟩
            exact ⟨Keep.refl _ _, rfl⟩
        rintro w15 k15 vs hv
        have z_k15 := k15.size
        replace hB := hB.trans k15.weak
        have e2 : (vs 9) = .int .i64 (bits .and .i64 (num (rest.take 1)) 63) := hv 9 (by decide) rfl
        refine ab [(2, .int .i64 (bits .and .i64 (num (rest.take 1)) 63)), (0, _), (3, _), (5, _), (6, _), (7, _), (4, _), (8, _), (9, _), (10, _), (11, _), (12, _), (13, _), (24, _), (25, _), (29, _), (30, _), (31, _), (32, _), (33, _), (34, _), (35, _)] ⟨congrArg some e2, rfl, rfl, rfl, rfl, rfl, rfl, rfl, rfl, rfl, rfl, rfl, rfl, rfl, rfl, rfl, rfl, rfl, rfl, rfl, rfl, rfl, trivial⟩ ?_
        replace hb := hb.lh k15; replace hr := hr.lh k15
        have hmask : bits .and .i64 (num (rest.take 1)) 63 = num (rest.take 1) % 64 := by exact eB 6 (by decide) (hnb 1 (by decide)).1 (hnb 1 (by decide)).2
        rw [hmask]
        refine aY ?_
        refine aY ?_
        refine aX ?_
        refine ogm rfl rfl ?_
        refine a4 (dr rfl rfl) rfl ?_
        refine ogm rfl rfl ?_
        refine al 50 true rfl (fun c4 hgc4 => ?_)
        refine a5 [(2, _)] (aa rfl rfl rfl hgc4) ⟨au rfl, trivial⟩ (fun hw19 => av rfl) rfl ?_
        refine a5 [(3, _)] (aa rfl rfl rfl hgc4) ⟨au rfl, trivial⟩ (fun hw20 => av rfl) rfl ?_
        refine a5 [(52, _)] (aa rfl rfl rfl hgc4) ⟨ae rfl, trivial⟩ (fun hw21 => ak (j := 4) (cJ rfl rfl) (by decide)) rfl ?_
        refine a5 [(53, _)] (aa rfl rfl rfl hgc4) ⟨ae rfl, trivial⟩ (fun hw22 => ak (j := 2) (bV rfl rfl) (by decide)) rfl ?_
        refine a5 [(51, _), (54, _)] (aa rfl rfl rfl hgc4) ⟨ae rfl, ae rfl, trivial⟩ (fun hw23 => ef (m := 4) rfl rfl (by decide) (by decide)) rfl ?_
        refine a5 [(55, _)] (aa rfl rfl rfl hgc4) ⟨ae rfl, trivial⟩ (fun hw24 => bF rfl rfl) rfl ?_
        refine a4 (ax rfl rfl hgc4) rfl ?_
        refine aZ ?_
        refine bH rfl (fun hc10 => ?_) (fun hc10 => ?_)
        · -- yes
          have hd7 := hc10
          try (simp only [Bool.and_eq_true, Bool.or_eq_true, decide_eq_true_eq, Bool.and_eq_false_iff, Bool.or_eq_false_iff, decide_eq_false_iff_not, Bool.not_eq_true', Bool.not_eq_false', Bool.not_eq_true, Bool.not_eq_false, ne_eq, Decidable.not_not, decide_true, decide_false, Bool.true_and, Bool.false_and, Bool.or_false, Bool.false_or, not_true_eq_false, false_or, or_false, true_and, and_true, not_false_eq_true, reduceCtorEq] at hd7)
          refine aY ?_
          refine aX ?_
          refine ogm rfl rfl ?_
          refine oga rfl rfl ?_
          refine a4 (ai rfl) rfl ?_
          refine a4 (ay aE rfl dC (by decide) rfl) rfl ?_
          refine am (bQ dC rfl rfl rfl hb rfl) ?_
          rintro _ w16 ⟨hq12, k16, z12⟩
          have hR : RdrQ Q w16 p rest 21 := RdrQ.setE hq12 hr hn k16
          replace hB := hB.trans k16
          refine aZ ?_
          refine cU rfl ?_
          refine aY ?_
          refine a8 ?_
          refine aY ?_
          refine aX ?_
          refine ogm rfl rfl ?_
          refine oga rfl rfl ?_
          refine aZ ?_
          refine af hfin Tryd.results57 rfl ?_
          exfalso; omega
        · -- no
          have hd8 := hc10
          try (simp only [Bool.and_eq_true, Bool.or_eq_true, decide_eq_true_eq, Bool.and_eq_false_iff, Bool.or_eq_false_iff, decide_eq_false_iff_not, Bool.not_eq_true', Bool.not_eq_false', Bool.not_eq_true, Bool.not_eq_false, ne_eq, Decidable.not_not, decide_true, decide_false, Bool.true_and, Bool.false_and, Bool.or_false, Bool.false_or, not_true_eq_false, false_or, or_false, true_and, and_true, not_false_eq_true, reduceCtorEq] at hd8)
          refine a8 ?_
          refine aY ?_
          refine aX ?_
          refine ogm rfl rfl ?_
          refine ogm rfl rfl ?_
          refine a4 (ai rfl) rfl ?_
          refine a4 (ay aE rfl az (by decide) rfl) rfl ?_
          refine a4 (ac ba rfl (by assumption) rfl) rfl ?_
          refine ogm rfl rfl ?_
          refine a4 (ek aA bu rfl (by first | assumption | exact Own.rd (by assumption) | exact Rd.lh (by assumption) hB | exact Own.rd (Own.lh (by assumption) hB)) (.inr ⟨_, _, rfl, rfl⟩) (.inl ⟨rfl, rfl⟩) ⟨by omega, by omega, by omega⟩) rfl ?_
          refine a4 (ai rfl) rfl ?_
          refine a4 (ay aE rfl az (by decide) rfl) rfl ?_
          refine am (bQ az rfl rfl hr.cutOne hb rfl) ?_
          rintro _ w17 ⟨hq13, k17, z13⟩
          have hR : RdrQ Q w17 p (rest.drop (1 : Int).toNat) e := RdrQ.setB hq13 hr hn k17 (by omega) (by omega)
          replace hB := hB.trans k17
          refine aZ ?_
          refine aY ?_
          refine cX ?_
          refine aY ?_
          refine aX ?_
          refine ogm rfl rfl ?_
          refine oga rfl rfl ?_
          refine aZ ?_
          refine af hfin Tryd.results57 rfl ?_
          exfalso; omega
variable {Q : Nat → Prop}
theorem lJ (v : Value) (xs : List UInt8) (w : World) (hv : RdB w v xs) (hx : xs.length ≤ 140737488355328) : Rets Tryd.prog 31 [v] w (fun r w' => ∃ p, r = .pointer (some ⟨p, 0, none⟩) ∧ RdrL w' w.heap.size p xs 0 ∧ Keep [] w w') := by
 have hB : Keep [] w w := Keep.refl _ _
 refine ad Tryd.func31 rfl (by decide) Tryd.ntmps31 rfl (fun fin _ hfin => ?_)
 refine aY (aX (oga rfl rfl (aZ (aY (aX (ogm rfl rfl ?_))))))
 refine ah (a7 (vs := [_]) rfl (iH _ _ _ (by first | assumption | exact Own.rd ‹_› | exact Rd.lh ‹_› hB | exact Own.rd (Own.lh ‹_› hB)) (by first | assumption | (simp only [List.length_take, List.length_drop] at *; omega)))) rfl ?_
 rintro v1 w1 ⟨o1, k1, nn1⟩
 have z_k1 := k1.size
 replace hB := hB.trans k1
 have u_o1 := o1.blk
 refine a4 (cL (idx := [0, 2]) (xs := [.tmp 4, .const (.bool true)]) (vs := [_, _]) (css := [[_], [_]]) (out := [_, _, _]) pl78 ty78 rfl rfl ⟨Rd.cells (by first | assumption | exact Own.rd ‹_› | exact Rd.lh ‹_› hB | exact Own.rd (Own.lh ‹_› hB)), rfl, trivial⟩ rfl rfl) rfl ?_
 refine ah (bz (cs := [_, _, _]) rfl rfl) rfl ?_
 rintro _ w2 ⟨b1, rfl, eb1, hb1, k2, z1⟩
 have z_k2 := k2.size
 replace o1 := o1.lh k2
 replace hB := hB.trans k2
 refine oga rfl rfl (aZ (af hfin Tryd.results31 rfl ?_))
 exact ⟨_, rfl, ⟨by have := k1.size; omega, _, hb1, o1.rd, fun x hx => by have := u_o1 x hx; omega⟩, hB⟩
theorem kY {a b : Nat} (h : a < b) : a < b := h
theorem ic (p : Nat) (rest : List UInt8) (e n : Int) (w : World) (h : RdrQ Q w p rest e) (hx : rest.length ≤ 140737488355328) : Rets Tryd.prog 58 [.pointer (some ⟨p, 0, none⟩), .int .i64 n] w (fun v w' => ∃ r, r = rTake rest e n ∧ OwnB w' w.heap.size v r.1 ∧ RdrQ Q w' p r.2.1 r.2.2 ∧ Keep [p] w w') := by
 obtain ⟨bw, hb, hr, hn⟩ := h
 have hB : Keep [p] w w := Keep.refl _ _
 have hgb0 : gb rest 0 = ((rest.getD 0 0).toNat : Int) := rfl
 have hcap := hr.vcap
 have hp0 : p < w.heap.size := hb.lt
 refine ad Tryd.func58 rfl (by decide) Tryd.ntmps58 rfl (fun fin _ hfin => ?_)
 refine aY (aX (oga rfl rfl (aZ (aY (ag (aY ?_))))))
 refine aX (ogm rfl rfl (ah (a7 (vs := [_]) rfl (fb _ _ _ _ (by exact ⟨bw, hb, hr, hn⟩))) rfl ?_))
 rintro _ _ ⟨rfl, rfl⟩
 refine a4 (cC rfl rfl) rfl ?_
 refine oga rfl rfl (aZ (ar rfl (fun hc1 => ?_) (fun hc1 => ?_)))
 ·
  refine aY (aX (oga rfl rfl (aZ (af hfin Tryd.results58 rfl ?_))))
  refine ⟨([], rest, e), ?_, a9 _ _ _ _, ⟨bw, hb, hr, hn⟩, hB⟩
  unfold rTake
  repeat (first | rw [if_pos ‹_›] | rw [if_neg ‹_›] | rw [if_pos (by omega)] | rw [if_neg (by omega)])
  all_goals first | rfl | (refine Prod.ext rfl (Prod.ext rfl ?_); show _ = _; dsimp only; omega)
 ·
  refine aY (aX (ogm rfl rfl (a4 (bO rfl rfl) rfl ?_)))
  refine oga rfl rfl (aZ (ar rfl (fun hc2 => ?_) (fun hc2 => ?_)))
  ·
   refine aY (aX (ogm rfl rfl (a4 (ai rfl) rfl ?_)))
   refine a4 (ay aE rfl dC (by decide) rfl) rfl ?_
   refine am (bQ dC rfl rfl rfl hb rfl) ?_
   rintro _ w1 ⟨hq1, k1, z1⟩
   have hR : RdrQ Q w1 p rest 1 := RdrQ.setE hq1 hr hn k1
   replace hB := hB.trans k1
   refine aZ (aY (aX (oga rfl rfl (aZ (af hfin Tryd.results58 rfl ?_)))))
   refine ⟨([], rest, 1), ?_, a9 _ _ _ _, hR, hB⟩
   unfold rTake
   repeat (first | rw [if_pos ‹_›] | rw [if_neg ‹_›] | rw [if_pos (by omega)] | rw [if_neg (by omega)])
   all_goals first | rfl | (refine Prod.ext rfl (Prod.ext rfl ?_); show _ = _; dsimp only; omega)
  ·
   refine aY (aX (ogm rfl rfl (ogm rfl rfl (a4 (ai rfl) rfl ?_))))
   refine a4 (ay aE rfl az (by decide) rfl) rfl ?_
   refine a4 (ac ba rfl ‹_› rfl) rfl ?_
   refine a4 (bI aA rfl (by first | assumption | exact Own.rd ‹_› | exact Rd.lh ‹_› hB | exact Own.rd (Own.lh ‹_› hB))) rfl ?_
   refine a4 (dr rfl rfl) rfl ?_
   refine oga rfl rfl (aZ (ar rfl (fun hc3 => ?_) (fun hc3 => ?_)))
   ·
    refine aY (aX (ogm rfl rfl (a4 (ai rfl) rfl ?_)))
    refine a4 (ay aE rfl dC (by decide) rfl) rfl ?_
    refine am (bQ dC rfl rfl rfl hb rfl) ?_
    rintro _ w2 ⟨hq2, k2, z2⟩
    have hR : RdrQ Q w2 p rest 20 := RdrQ.setE hq2 hr hn k2
    replace hB := hB.trans k2
    refine aZ (aY (aX (oga rfl rfl (aZ (af hfin Tryd.results58 rfl ?_)))))
    refine ⟨([], rest, 20), ?_, a9 _ _ _ _, hR, hB⟩
    unfold rTake
    repeat (first | rw [if_pos ‹_›] | rw [if_neg ‹_›] | rw [if_pos (by omega)] | rw [if_neg (by omega)])
    all_goals first | rfl | (refine Prod.ext rfl (Prod.ext rfl ?_); show _ = _; dsimp only; omega)
   ·
    refine a8 (bg (aY (aX (ogm rfl rfl (a4 (ai rfl) rfl ?_)))))
    refine a4 (ay aE rfl az (by decide) rfl) rfl ?_
    refine a4 (ac ba rfl ‹_› rfl) rfl ?_
    refine ogm rfl rfl ?_
    have hct := hr.cutB (l := 0) (hi := n.toNat) (Nat.zero_le _) (by omega)
    replace hct : RdB w (cut bw 0 n.toNat 1) (rest.take n.toNat) := by simpa using hct
    refine a4 (ek aA bu rfl hr (.inl ⟨rfl, rfl⟩) (.inr ⟨_, _, rfl, rfl⟩) ⟨by omega, by omega, by omega⟩) rfl ?_
    refine ah (a7 (vs := [_]) rfl (iH _ (rest.take n.toNat) _ ‹_› (by simp only [List.length_take]; omega))) rfl ?_
    rintro v1 w3 ⟨o1, k3, nn1⟩
    have z_k3 := k3.size
    replace hB := hB.trans k3.weak
    replace hb := hb.lh k3
    replace hr := hr.lh k3
    have hpl := hb.lt
    refine oga rfl rfl (aZ (aY (aX (ogm rfl rfl (ogm rfl rfl (a4 (ai rfl) rfl ?_))))))
    refine a4 (ay aE rfl az (by decide) rfl) rfl ?_
    refine a4 (ac ba rfl ‹_› rfl) rfl ?_
    refine ogm rfl rfl (a4 (ek aA bu rfl (by first | assumption | exact Own.rd ‹_› | exact Rd.lh ‹_› hB | exact Own.rd (Own.lh ‹_› hB)) (.inr ⟨_, _, rfl, rfl⟩) (.inl ⟨rfl, rfl⟩) ⟨by omega, by omega, by omega⟩) rfl ?_)
    refine a4 (ai rfl) rfl ?_
    refine a4 (ay aE rfl az (by decide) rfl) rfl ?_
    refine am (bQ az rfl rfl hr.cutOne hb rfl) ?_
    rintro _ w4 ⟨hq3, k4, z3⟩
    have hR : RdrQ Q w4 p (rest.drop n.toNat) e := RdrQ.setB hq3 hr hn k4 (by omega) (by omega)
    replace hB := hB.trans k4
    replace o1 := o1.keepP k4 (kY hp0)
    refine aZ (aY (aX (ogm rfl rfl (oga rfl rfl (aZ (af hfin Tryd.results58 rfl ?_))))))
    refine ⟨(rest.take n.toNat, rest.drop n.toNat, e), ?_, o1.lo (by omega), hR, hB⟩
    unfold rTake
    repeat (first | rw [if_pos ‹_›] | rw [if_neg ‹_›] | rw [if_pos (by omega)] | rw [if_neg (by omega)])
    all_goals first | rfl | (refine Prod.ext rfl (Prod.ext rfl ?_); show _ = _; dsimp only; omega)
theorem jM (p : Nat) (rest : List UInt8) (e : Int) (w : World) (h : RdrQ Q w p rest e) (hx : rest.length ≤ 140737488355328) : Rets Tryd.prog 33 [.pointer (some ⟨p, 0, none⟩)] w (fun v w' => ∃ r, r = rVec rest e ∧ OwnB w' w.heap.size v r.1 ∧ RdrQ Q w' p r.2.1 r.2.2 ∧ Keep [p] w w') := by
 have h' := h
 obtain ⟨bw0, hb0, hr0, hn0⟩ := h'
 have hB : Keep [p] w w := Keep.refl _ _
 refine ad Tryd.func33 rfl (by decide) Tryd.ntmps33 rfl (fun fin _ hfin => ?_)
 refine aY (aX (oga rfl rfl (aZ (aY (aY (aX ?_))))))
 refine ogm rfl rfl (ah (a7 (vs := [_]) rfl (fb _ _ _ _ ‹_›)) rfl ?_)
 rintro _ _ ⟨rfl, rfl⟩
 refine a4 (cC rfl rfl) rfl ?_
 refine aZ (ar rfl (fun hc1 => ?_) (fun hc1 => ?_))
 ·
  refine aY (aX (oga rfl rfl (aZ (af hfin Tryd.results33 rfl ?_))))
  refine ⟨([], rest, e), ?_, a9 _ _ _ _, h, hB⟩
  unfold rVec; rw [if_pos ‹_›]
 ·
  refine a8 (aY (aX (ogm rfl rfl (a4 (ai rfl) rfl ?_))))
  refine a4 (ay aE rfl az (by decide) rfl) rfl ?_
  obtain rfl : e = 0 := by omega
  refine a4 (ac ba rfl hb0 rfl) rfl ?_
  refine oga rfl rfl (aZ (aY (aX (ogm rfl rfl (ah (a7 (vs := [_]) rfl (ik _ _ _ _ h)) rfl ?_)))))
  rintro _ w1 ⟨r1, hr1, rfl, R1, k1⟩
  replace hB := hB.trans k1
  obtain ⟨bw, hb, hr, hn⟩ := R1
  have hlen1 : r1.2.1.length ≤ rest.length := by rw [hr1]; exact is rest 0
  refine oga rfl rfl (aZ (aY (aY (aX (ogm rfl rfl (a4 (ai rfl) rfl ?_))))))
  refine a4 (ay aE rfl dC (by decide) rfl) rfl ?_
  refine a4 (ac sc32 rfl ‹_› rfl) rfl ?_
  refine a4 (bF rfl rfl) rfl ?_
  refine ogm rfl rfl (al 20 true rfl (fun c1 hgc1 => ?_))
  refine a5 [(4, _)] (aa rfl rfl rfl hgc1) ⟨au rfl, trivial⟩ (fun hw1 => av rfl) rfl ?_
  refine a5 [(21, _)] (aa rfl rfl rfl hgc1) ⟨ae rfl, trivial⟩ (fun hw2 => dr rfl rfl) rfl ?_
  refine a4 (ax rfl rfl hgc1) rfl ?_
  refine aZ (bH rfl (fun hc2 => ?_) (fun hc2 => ?_))
  ·
   have hd1 := hc2
   try (simp only [Bool.and_eq_true, Bool.or_eq_true, decide_eq_true_eq, Bool.and_eq_false_iff, Bool.or_eq_false_iff, decide_eq_false_iff_not, Bool.not_eq_true', Bool.not_eq_false', Bool.not_eq_true, Bool.not_eq_false, ne_eq, Decidable.not_not, decide_true, decide_false, Bool.true_and, Bool.false_and, Bool.or_false, Bool.false_or, not_true_eq_false, false_or, or_false, true_and, and_true, not_false_eq_true, reduceCtorEq] at hd1)
   refine aX (ogm rfl rfl (a4 (ai rfl) rfl ?_))
   refine a4 (ay aE rfl dC (by decide) rfl) rfl ?_
   refine am (bQ dC rfl rfl rfl hb rfl) ?_
   rintro _ w2 ⟨hq1, k2, z1⟩
   replace hr := hr.keep k2 (fun x hx hm => Nat.ne_of_lt (hn x hx).1 (by simpa using hm)); replace hb := hq1; replace hB := hB.trans k2
   refine aZ (aY (aX (ogm rfl rfl (ogm rfl rfl ?_))))
   have hs1 := hB.size; have hp1 := hb.lt
   refine ah (a7 (vs := [_, _]) rfl (ic _ r1.2.1 21 _ _ ⟨bw, hb, hr, hn⟩ (by omega))) rfl ?_
   rintro v1 w3 ⟨r2, hr2, o1, R2, k3⟩
   replace hB := hB.trans k3
   obtain ⟨bw2, hb2, hrr2, hn2⟩ := R2
   refine oga rfl rfl (aZ (aY (aY (aX (ogm rfl rfl (a4 (ai rfl) rfl ?_))))))
   refine a4 (ay aE rfl dC (by decide) rfl) rfl ?_
   refine a4 (ac sc32 rfl hb2 rfl) rfl ?_
   refine a4 (cC rfl rfl) rfl ?_
   refine aZ (ar rfl (fun hc3 => ?_) (fun hc3 => ?_))
   ·
    refine aX (ogm rfl rfl (ogm rfl rfl (a4 (ai rfl) rfl ?_)))
    refine a4 (ay aE rfl az (by decide) rfl) rfl ?_
    refine am (bQ az rfl rfl hr0.one hb2 rfl) ?_
    rintro _ w4 ⟨hq2, k4, z2⟩
    have hr0' := hr0.keep (hB.trans k4) (fun x hx hm => Nat.ne_of_lt (hn0 x hx).1 (by simpa using hm))
    replace o1 := o1.keepP k4 hp1; replace hB := hB.trans k4
    have hR : RdrQ Q w4 p rest r2.2.2 := ⟨_, hq2, hr0', hn0⟩
    refine aZ (aY (aX (ogm rfl rfl (oga rfl rfl (aZ (af hfin Tryd.results33 rfl ?_))))))
    have h1 : r2.1 = [] := by rw [hr2]; exact hU _ _ _ (by rw [← hr2]; assumption)
    rw [h1] at o1
    exact ⟨([], rest, r2.2.2), iq hr1 hr2 (by first | assumption | omega) ‹_›, o1.lo hs1, hR, hB⟩
   ·
    refine a8 (aY (aX (ogm rfl rfl (oga rfl rfl (aZ (af hfin Tryd.results33 rfl ?_))))))
    exact ⟨r2, hQ hr1 hr2 (by first | assumption | omega) (by omega), o1.lo hs1, ⟨bw2, hb2, hrr2, hn2⟩, hB⟩
  ·
   have hd2 := hc2
   try (simp only [Bool.and_eq_true, Bool.or_eq_true, decide_eq_true_eq, Bool.and_eq_false_iff, Bool.or_eq_false_iff, decide_eq_false_iff_not, Bool.not_eq_true', Bool.not_eq_false', Bool.not_eq_true, Bool.not_eq_false, ne_eq, Decidable.not_not, decide_true, decide_false, Bool.true_and, Bool.false_and, Bool.or_false, Bool.false_or, not_true_eq_false, false_or, or_false, true_and, and_true, not_false_eq_true, reduceCtorEq] at hd2)
   refine a8 (aY (aX (ogm rfl rfl (ogm rfl rfl ?_))))
   have hs1 := hB.size; have hp1 := hb.lt
   refine ah (a7 (vs := [_, _]) rfl (ic _ r1.2.1 r1.2.2 _ _ ⟨bw, hb, hr, hn⟩ (by omega))) rfl ?_
   rintro v1 w5 ⟨r2, hr2, o1, R2, k5⟩
   replace hB := hB.trans k5
   obtain ⟨bw2, hb2, hrr2, hn2⟩ := R2
   refine oga rfl rfl (aZ (aY (aY (aX (ogm rfl rfl (a4 (ai rfl) rfl ?_))))))
   refine a4 (ay aE rfl dC (by decide) rfl) rfl ?_
   refine a4 (ac sc32 rfl hb2 rfl) rfl ?_
   refine a4 (cC rfl rfl) rfl ?_
   refine aZ (ar rfl (fun hc4 => ?_) (fun hc4 => ?_))
   ·
    refine aX (ogm rfl rfl (ogm rfl rfl (a4 (ai rfl) rfl ?_)))
    refine a4 (ay aE rfl az (by decide) rfl) rfl ?_
    refine am (bQ az rfl rfl hr0.one hb2 rfl) ?_
    rintro _ w6 ⟨hq3, k6, z3⟩
    have hr0' := hr0.keep (hB.trans k6) (fun x hx hm => Nat.ne_of_lt (hn0 x hx).1 (by simpa using hm))
    replace o1 := o1.keepP k6 hp1; replace hB := hB.trans k6
    have hR : RdrQ Q w6 p rest r2.2.2 := ⟨_, hq3, hr0', hn0⟩
    refine aZ (aY (aX (ogm rfl rfl (oga rfl rfl (aZ (af hfin Tryd.results33 rfl ?_))))))
    have h1 : r2.1 = [] := by rw [hr2]; exact hU _ _ _ (by rw [← hr2]; assumption)
    rw [h1] at o1
    exact ⟨([], rest, r2.2.2), ir hr1 hr2 (by first | assumption | omega) ‹_›, o1.lo hs1, hR, hB⟩
   ·
    refine a8 (aY (aX (ogm rfl rfl (oga rfl rfl (aZ (af hfin Tryd.results33 rfl ?_))))))
    exact ⟨r2, jh hr1 hr2 (by first | assumption | omega) (by omega), o1.lo hs1, ⟨bw2, hb2, hrr2, hn2⟩, hB⟩
theorem eM (p : Nat) (rest : List UInt8) (e : Int) (w : World) (h : RdrQ Q w p rest e) : Rets Tryd.prog 34 [.pointer (some ⟨p, 0, none⟩)] w (fun v w' => v = .int .i64 (rEnd rest e) ∧ w = w') := by
 obtain ⟨bw, hb, hr, hn⟩ := h
 refine ad Tryd.func34 rfl (by decide) Tryd.ntmps34 rfl (fun fin _ hfin => ?_)
 refine aY (aX (oga rfl rfl (aZ (aY (aY (aX ?_))))))
 refine ogm rfl rfl (ah (a7 (vs := [_]) rfl (fb _ _ _ _ ⟨bw, hb, hr, hn⟩)) rfl ?_)
 rintro _ _ ⟨rfl, rfl⟩
 refine oga rfl rfl (aZ (aY (aX (ogm rfl rfl (a4 (cC rfl rfl) rfl ?_)))))
 refine aZ (ar rfl (fun hc1 => ?_) (fun hc1 => ?_))
 ·
  refine aY (aX (ogm rfl rfl (oga rfl rfl (aZ (af hfin Tryd.results34 rfl ?_)))))
  refine ⟨?_, rfl⟩
  congr 1
  unfold rEnd
  repeat (first | rw [if_pos ‹_›] | rw [if_neg ‹_›] | rw [if_pos (by omega)] | rw [if_neg (by omega)])
 ·
  refine a8 (aY (aY (aX (ogm rfl rfl (a4 (ai rfl) rfl ?_)))))
  refine a4 (ay aE rfl az (by decide) rfl) rfl ?_
  refine a4 (ac ba rfl ‹_› rfl) rfl ?_
  refine a4 (bI aA rfl (by first | assumption | exact Own.rd ‹_› | exact Rd.lh ‹_› hB | exact Own.rd (Own.lh ‹_› hB))) rfl ?_
  refine a4 (dr rfl rfl) rfl ?_
  refine aZ (ar rfl (fun hc2 => ?_) (fun hc2 => ?_))
  ·
   refine aY (aX (oga rfl rfl (aZ (af hfin Tryd.results34 rfl ?_))))
   refine ⟨?_, rfl⟩
   congr 1
   unfold rEnd
   repeat (first | rw [if_pos ‹_›] | rw [if_neg ‹_›] | rw [if_pos (by omega)] | rw [if_neg (by omega)])
  ·
   refine a8 (aY (aX (oga rfl rfl (aZ (af hfin Tryd.results34 rfl ?_)))))
   refine ⟨?_, rfl⟩
   congr 1
   unfold rEnd
   repeat (first | rw [if_pos ‹_›] | rw [if_neg ‹_›] | rw [if_pos (by omega)] | rw [if_neg (by omega)])
def RdrG (w : World) (lo p : Nat) (rest : List UInt8) (e : Int) : Prop := lo ≤ p ∧ RdrQ (fun x => lo ≤ x) w p rest e
theorem RdrL.g {w : World} {lo p : Nat} {rest : List UInt8} {e : Int} (h : RdrL w lo p rest e) : RdrG w lo p rest e := ⟨h.1, h.rdrQ⟩
theorem RdrG.rdr {w : World} {lo p : Nat} {rest : List UInt8} {e : Int} (h : RdrG w lo p rest e) : Rdr w p rest e := (h.2.rdrL h.1).rdr
theorem RdrG.lt {w : World} {lo p : Nat} {rest : List UInt8} {e : Int} (h : RdrG w lo p rest e) : p < w.heap.size := h.2.lt
theorem RdrG.keep {S : List Nat} {w w' : World} {lo p : Nat} {rest : List UInt8} {e : Int} (h : RdrG w lo p rest e) (k : Keep S w w') (hS : ∀ x, lo ≤ x ∧ x ≤ p → x ∉ S) : RdrG w' lo p rest e := by
 obtain ⟨h0, bw, hb, hr, hn⟩ := h; exact ⟨h0, bw, hb.keep k (hS p ⟨h0, Nat.le_refl _⟩), hr.keep k (fun x hx => hS x ⟨(hn x hx).2, Nat.le_of_lt (hn x hx).1⟩), hn⟩
theorem RdrG.lh {w w' : World} {lo p : Nat} {rest : List UInt8} {e : Int} (h : RdrG w lo p rest e) (k : Keep [] w w') : RdrG w' lo p rest e := h.keep k (fun _ _ h => by cases h)
theorem dF {lo : Nat} (p : Nat) (rest : List UInt8) (e size : Int) (w : World) (h : RdrG w lo p rest e) (hs : size = 1 ∨ size = 2 ∨ size = 4 ∨ size = 8) : Rets Tryd.prog 32 [.pointer (some ⟨p, 0, none⟩), .int .i64 size] w (fun v w' => ∃ r, r = rNum (bitsOf size) rest e size ∧ v = .int .i64 r.1 ∧ RdrG w' lo p r.2.1 r.2.2 ∧ Keep [p] w w') :=
  (ij p rest e size w h.2 hs).mono fun v w' ⟨r, h1, h2, h3, h4⟩ => ⟨r, h1, h2, ⟨h.1, h3⟩, h4⟩
theorem bn {lo : Nat} (p : Nat) (rest : List UInt8) (e : Int) (w : World) (h : RdrG w lo p rest e) (hx : rest.length ≤ 140737488355328) : Rets Tryd.prog 33 [.pointer (some ⟨p, 0, none⟩)] w (fun v w' => ∃ r, r = rVec rest e ∧ OwnB w' w.heap.size v r.1 ∧ RdrG w' lo p r.2.1 r.2.2 ∧ Keep [p] w w') :=
  (jM p rest e w h.2 hx).mono fun v w' ⟨r, h1, h2, h3, h4⟩ => ⟨r, h1, h2, ⟨h.1, h3⟩, h4⟩
theorem dy {xs : List UInt8} (h : xs.length ≤ 65536) : (vecs [xs]).length ≤ 140737488355328 := by
 have h1 := dT xs.length
 simp only [vecs, vec, List.flatMap_cons, List.flatMap_nil, List.append_nil, List.length_append]; omega
theorem gW {xs : List UInt8} (h : xs.length ≤ 65536) : vecsB [xs] = vec xs := by
 unfold vecsB; rw [if_pos (by intro x hx; rw [List.mem_singleton] at hx; subst hx; exact h)]; simp [vecs]
theorem cn (xs : List UInt8) : (vec xs).length ≤ xs.length + 4 := by
 have h1 := dT xs.length
 simp only [vec, List.length_append]; omega
theorem eD {xs : List UInt8} : (vecsB [xs]).length ≤ 65540 := by
 unfold vecsB; split
 · rename_i h
   have h1 := h xs (by simp); have h2 := cn xs
   simp only [vecs, List.flatMap_cons, List.flatMap_nil, List.append_nil]; omega
 · simp
theorem cu (b n size : Int) (h : size ≤ 8) : (numB b n size).length ≤ 8 := by
 unfold numB; split
 · simp; omega
 · simp
def comB (gs ms : List UInt8) (ep kd : Int) : Bool := decide ((gs.length : Int) ≤ 255) && decide ((ms.length : Int) ≤ 255) && decide (0 ≤ ep) && decide (ep < 4294967296) && decide (1 ≤ kd) && decide (kd ≤ 3)
def rightB (gs : List UInt8) (ep fr lf : Int) (ms : List UInt8) (kd : Int) (bs : List UInt8) : Bool :=
 (decide (fr = 1) && decide (0 ≤ lf) && decide (lf < 64) || decide (fr = 4) && decide (lf = 0) && decide (kd = 3)) && decide ((bs.length : Int) ≤ 40000) && comB gs ms ep kd
def cBytes (gs : List UInt8) (ep fr lf : Int) (ms : List UInt8) (kd : Int) (bs : List UInt8) : List UInt8 :=
 [vecsB [gs], numB (bitsOf 8) ep 8, numB (bitsOf 1) fr 1, (if fr = 1 then numB (bitsOf 4) lf 4 else []), vecsB [ms], numB (bitsOf 1) kd 1, vecsB [bs]].flatten
theorem iI (gs : List UInt8) (ep fr lf : Int) (ms : List UInt8) (kd : Int) (bs : List UInt8) : (cBytes gs ep fr lf ms kd bs).length ≤ 140737488355328 := by
 have h1 := @eD gs; have h2 := @eD ms; have h3 := @eD bs
 have h4 := cu (bitsOf 8) ep 8 (by decide); have h5 := cu (bitsOf 1) fr 1 (by decide); have h6 := cu (bitsOf 4) lf 4 (by decide); have h7 := cu (bitsOf 1) kd 1 (by decide)
 have h8 : (if fr = 1 then numB (bitsOf 4) lf 4 else []).length ≤ 8 := by split <;> simp [h6]
 simp only [cBytes, List.flatten_cons, List.flatten_nil, List.length_append, List.length_nil]; omega
abbrev SlB (w : World) (lo : Nat) (v : Value) (ls : List (List UInt8)) : Prop := SlL w lo 22 v ls
theorem cK (v : Value) (ls : List (List UInt8)) (lo : Nat) (w : World) (h : SlB w lo v ls) (hsum : (vecs ls).length ≤ 140737488355328) : Rets Tryd.prog 28 [v] w (fun u w' => OwnB w' w.heap.size u (vecsB ls) ∧ Keep [] w w') := by
 have hB : Keep [] w w := Keep.refl _ _
 obtain ⟨us, h1, h2, h3⟩ := h
 replace h3 := h3.rd
 rw [← h1] at h3
 refine ad Tryd.func28 rfl (by decide) Tryd.ntmps28 rfl (fun fin _ hfin => ?_)
 refine aY (aX (oga rfl rfl (aZ (aY (aX (ogm rfl rfl ?_))))))
 refine ah (a7 (vs := [_]) rfl (i4 _ us ls _ h3 h2 hsum)) rfl ?_
 rintro _ w1 ⟨v1, rfl, o1, k1⟩
 have z_k1 := k1.size
 replace hB := hB.trans k1
 refine ogm rfl rfl (a4 (bm (vs := [_, _]) rfl rfl) rfl ?_)
 refine a4 (bm (vs := [_, _]) rfl rfl) rfl ?_
 refine oga rfl rfl (oga rfl rfl (aZ (aY (aX (ogm rfl rfl (oga rfl rfl ?_))))))
 refine aZ (af hfin Tryd.results28 rfl ?_)
 exact ⟨by assumption, hB⟩
theorem cG (n size : Int) (hs : size = 1 ∨ size = 2 ∨ size = 4 ∨ size = 8) (w : World) : Rets Tryd.prog 26 [.int .i64 n, .int .i64 size] w (fun u w' => OwnB w' w.heap.size u (numB (bitsOf size) n size) ∧ Keep [] w w') := by
 have hB : Keep [] w w := Keep.refl _ _
 refine ad Tryd.func26 rfl (by decide) Tryd.ntmps26 rfl (fun fin _ hfin => ?_)
 refine aY (aX (oga rfl rfl (aZ (aY (aX (ogm rfl rfl ?_))))))
 refine ogm rfl rfl (ah (a7 (vs := [_, _]) rfl (jZ _ _ (by omega) _)) rfl ?_)
 rintro _ w1 ⟨v1, rfl, o1, k1⟩
 have z_k1 := k1.size
 replace hB := hB.trans k1
 refine ogm rfl rfl (a4 (bm (vs := [_, _]) rfl rfl) rfl ?_)
 refine a4 (bm (vs := [_, _]) rfl rfl) rfl ?_
 refine oga rfl rfl (oga rfl rfl (aZ (aY (aX (ogm rfl rfl (oga rfl rfl ?_))))))
 refine aZ (af hfin Tryd.results26 rfl ?_)
 exact ⟨by assumption, hB⟩
theorem j6 (g m : Value) (gs ms : List UInt8) (ep kd : Int) (w : World) (hg : RdB w g gs) (hm : RdB w m ms) : Rets Tryd.prog 72 [g, m, .int .i64 ep, .int .i64 kd] w (fun v w' => v = .bool (comB gs ms ep kd) ∧ w = w') := by
 refine ad Tryd.func72 rfl (by decide) Tryd.ntmps72 rfl (fun fin _ hfin => ?_)
 refine aY (aX (oga rfl rfl (aZ (aY (aX (ogm rfl rfl ?_))))))
 refine a4 (bI aA rfl (by first | assumption | exact Own.rd ‹_› | exact Rd.lh ‹_› hB | exact Own.rd (Own.lh ‹_› hB))) rfl ?_
 refine a4 (g_le rfl rfl) rfl ?_
 refine ogm rfl rfl (al 12 true rfl (fun c1 hgc1 => ?_))
 refine a5 [(1, _)] (aa rfl rfl rfl hgc1) ⟨au rfl, trivial⟩ (fun hw1 => av rfl) rfl ?_
 refine a5 [(13, _)] (aa rfl rfl rfl hgc1) ⟨ae rfl, trivial⟩ (fun hw2 => bI aA rfl (by first | assumption | exact Own.rd ‹_› | exact Rd.lh ‹_› hB | exact Own.rd (Own.lh ‹_› hB))) rfl ?_
 refine a5 [(14, _)] (aa rfl rfl rfl hgc1) ⟨ae rfl, trivial⟩ (fun hw3 => g_le rfl rfl) rfl ?_
 refine a4 (ax rfl rfl hgc1) rfl ?_
 refine ogm rfl rfl (al 17 true rfl (fun c2 hgc2 => ?_))
 refine a5 [(2, _)] (aa rfl rfl rfl hgc2) ⟨au rfl, trivial⟩ (fun hw4 => av rfl) rfl ?_
 refine a5 [(18, _)] (aa rfl rfl rfl hgc2) ⟨ae rfl, trivial⟩ (fun hw5 => fA rfl rfl) rfl ?_
 refine a4 (ax rfl rfl hgc2) rfl ?_
 refine ogm rfl rfl (al 21 true rfl (fun c3 hgc3 => ?_))
 refine a5 [(2, _)] (aa rfl rfl rfl hgc3) ⟨au rfl, trivial⟩ (fun hw6 => av rfl) rfl ?_
 refine a5 [(22, _)] (aa rfl rfl rfl hgc3) ⟨ae rfl, trivial⟩ (fun hw7 => bO rfl rfl) rfl ?_
 refine a4 (ax rfl rfl hgc3) rfl ?_
 refine ogm rfl rfl (al 25 true rfl (fun c4 hgc4 => ?_))
 refine a5 [(3, _)] (aa rfl rfl rfl hgc4) ⟨au rfl, trivial⟩ (fun hw8 => av rfl) rfl ?_
 refine a5 [(26, _)] (aa rfl rfl rfl hgc4) ⟨ae rfl, trivial⟩ (fun hw9 => fA rfl rfl) rfl ?_
 refine a4 (ax rfl rfl hgc4) rfl ?_
 refine ogm rfl rfl (al 29 true rfl (fun c5 hgc5 => ?_))
 refine a5 [(3, _)] (aa rfl rfl rfl hgc5) ⟨au rfl, trivial⟩ (fun hw10 => av rfl) rfl ?_
 refine a5 [(30, _)] (aa rfl rfl rfl hgc5) ⟨ae rfl, trivial⟩ (fun hw11 => g_le rfl rfl) rfl ?_
 refine a4 (ax rfl rfl hgc5) rfl ?_
 refine oga rfl rfl (aZ (af hfin Tryd.results72 rfl ?_))
 exact ⟨rfl, rfl⟩
theorem hP (g m b : Value) (gs ms bs : List UInt8) (ep fr lf kd : Int) (w : World) (hg : RdB w g gs) (hm : RdB w m ms) (hb : RdB w b bs) : Rets Tryd.prog 59 [.agg [g, .int .i64 ep, .int .i64 fr, .int .i64 lf, m, .int .i64 kd, b].toArray] w (fun v w' => v = .bool (rightB gs ep fr lf ms kd bs) ∧ Keep [] w w') := by
 have hB : Keep [] w w := Keep.refl _ _
 refine ad Tryd.func59 rfl (by decide) Tryd.ntmps59 rfl (fun fin _ hfin => ?_)
 refine aY (aX (ah (bz (cs := [_, _, _, _, _, _, _]) rfl rfl) rfl ?_))
 rintro _ w1 ⟨b1, rfl, eb1, hb1, k1, z1⟩
 have z_k1 := k1.size
 replace hB := hB.trans k1
 refine oga rfl rfl (aZ (aY (aX (a4 (ay aD rfl bJ (by decide) rfl) rfl ?_))))
 refine a4 (ac bZ rfl ‹_› rfl) rfl ?_
 refine a4 (bF rfl rfl) rfl ?_
 refine ogm rfl rfl (al 7 true rfl (fun c1 hgc1 => ?_))
 refine a5 [(1, _)] (aa rfl rfl rfl hgc1) ⟨au rfl, trivial⟩ (fun hw1 => ay aD rfl bJ (by decide) rfl) rfl ?_
 refine a5 [(8, _)] (aa rfl rfl rfl hgc1) ⟨ae rfl, trivial⟩ (fun hw2 => ac bZ rfl ‹_› rfl) rfl ?_
 refine a5 [(9, _)] (aa rfl rfl rfl hgc1) ⟨ae rfl, trivial⟩ (fun hw3 => fA rfl rfl) rfl ?_
 refine a4 (ax rfl rfl hgc1) rfl ?_
 refine ogm rfl rfl (al 12 true rfl (fun c2 hgc2 => ?_))
 refine a5 [(1, _)] (aa rfl rfl rfl hgc2) ⟨au rfl, trivial⟩ (fun hw4 => ay aD rfl bJ (by decide) rfl) rfl ?_
 refine a5 [(13, _)] (aa rfl rfl rfl hgc2) ⟨ae rfl, trivial⟩ (fun hw5 => ac bZ rfl ‹_› rfl) rfl ?_
 refine a5 [(14, _)] (aa rfl rfl rfl hgc2) ⟨ae rfl, trivial⟩ (fun hw6 => bO rfl rfl) rfl ?_
 refine a4 (ax rfl rfl hgc2) rfl ?_
 refine ogm rfl rfl (al 17 false rfl (fun c3 hgc3 => ?_))
 refine a5 [(1, _)] (aa rfl rfl rfl hgc3) ⟨au rfl, trivial⟩ (fun hw7 => ay aD rfl bJ (by decide) rfl) rfl ?_
 refine a5 [(18, _)] (aa rfl rfl rfl hgc3) ⟨ae rfl, trivial⟩ (fun hw8 => ac bZ rfl ‹_› rfl) rfl ?_
 refine a5 [(19, _)] (aa rfl rfl rfl hgc3) ⟨ae rfl, trivial⟩ (fun hw9 => bF rfl rfl) rfl ?_
 refine a5 [(20, _)] (aa rfl rfl rfl hgc3) ⟨ae rfl, trivial⟩ (fun hw10 => av rfl) rfl ?_
 refine cl 21 true rfl (fun c4 hgc4 => ?_)
 refine a5 [(1, _)] (cc rfl rfl rfl hgc4) ⟨au rfl, trivial⟩ (fun hw11 => ay aD rfl bJ (by decide) rfl) rfl ?_
 refine a5 [(22, _)] (cc rfl rfl rfl hgc4) ⟨ae rfl, trivial⟩ (fun hw12 => ac bZ rfl ‹_› rfl) rfl ?_
 refine a5 [(23, _)] (cc rfl rfl rfl hgc4) ⟨ae rfl, trivial⟩ (fun hw13 => bF rfl rfl) rfl ?_
 refine ck (aa rfl rfl rfl hgc3) (ae rfl) rfl hgc4 rfl ?_
 refine a5 [(25, _)] (aa rfl rfl rfl hgc3) ⟨ae rfl, trivial⟩ (fun hw14 => av rfl) rfl ?_
 refine cl 26 true rfl (fun c5 hgc5 => ?_)
 refine a5 [(1, _)] (cc rfl rfl rfl hgc5) ⟨au rfl, trivial⟩ (fun hw15 => ay aD rfl bJ (by decide) rfl) rfl ?_
 refine a5 [(27, _)] (cc rfl rfl rfl hgc5) ⟨ae rfl, trivial⟩ (fun hw16 => ac bZ rfl ‹_› rfl) rfl ?_
 refine a5 [(28, _)] (cc rfl rfl rfl hgc5) ⟨ae rfl, trivial⟩ (fun hw17 => bF rfl rfl) rfl ?_
 refine ck (aa rfl rfl rfl hgc3) (ae rfl) rfl hgc5 rfl ?_
 refine a4 (bi rfl rfl hgc3) rfl ?_
 refine oga rfl rfl (aZ (aY (aX (ogm rfl rfl (ogm rfl rfl (al 33 true rfl (fun c6 hgc6 => ?_)))))))
 refine a5 [(1, _)] (aa rfl rfl rfl hgc6) ⟨au rfl, trivial⟩ (fun hw18 => ay aD rfl az (by decide) rfl) rfl ?_
 refine a5 [(34, _)] (aa rfl rfl rfl hgc6) ⟨ae rfl, trivial⟩ (fun hw19 => ac ba rfl ‹_› rfl) rfl ?_
 refine a5 [(35, _)] (aa rfl rfl rfl hgc6) ⟨ae rfl, trivial⟩ (fun hw20 => bI aA rfl (by first | assumption | exact Own.rd ‹_› | exact Rd.lh ‹_› hB | exact Own.rd (Own.lh ‹_› hB))) rfl ?_
 refine a5 [(36, _)] (aa rfl rfl rfl hgc6) ⟨ae rfl, trivial⟩ (fun hw21 => g_le rfl rfl) rfl ?_
 refine a4 (ax rfl rfl hgc6) rfl ?_
 refine ogm rfl rfl (al 39 true rfl (fun c7 hgc7 => ?_))
 refine a5 [(1, _)] (aa rfl rfl rfl hgc7) ⟨au rfl, trivial⟩ (fun hw22 => ay aD rfl az (by decide) rfl) rfl ?_
 refine a5 [(40, _)] (aa rfl rfl rfl hgc7) ⟨ae rfl, trivial⟩ (fun hw23 => ac ba rfl ‹_› rfl) rfl ?_
 refine a5 [(1, _)] (aa rfl rfl rfl hgc7) ⟨au rfl, trivial⟩ (fun hw24 => ay aD rfl az (by decide) rfl) rfl ?_
 refine a5 [(42, _)] (aa rfl rfl rfl hgc7) ⟨ae rfl, trivial⟩ (fun hw25 => ac ba rfl ‹_› rfl) rfl ?_
 refine a5 [(1, _)] (aa rfl rfl rfl hgc7) ⟨au rfl, trivial⟩ (fun hw26 => ay aD rfl bJ (by decide) rfl) rfl ?_
 refine a5 [(44, _)] (aa rfl rfl rfl hgc7) ⟨ae rfl, trivial⟩ (fun hw27 => ac bZ rfl ‹_› rfl) rfl ?_
 refine a5 [(1, _)] (aa rfl rfl rfl hgc7) ⟨au rfl, trivial⟩ (fun hw28 => ay aD rfl bJ (by decide) rfl) rfl ?_
 refine a5 [(46, _)] (aa rfl rfl rfl hgc7) ⟨ae rfl, trivial⟩ (fun hw29 => ac bZ rfl ‹_› rfl) rfl ?_
 refine dl [(41, _), (43, _), (45, _), (47, _)] (aa rfl rfl rfl hgc7) ⟨ae rfl, ae rfl, ae rfl, ae rfl, trivial⟩ (fun hw30 => a7 (vs := [_, _, _, _]) rfl (j6 _ _ _ _ _ _ _ (by first | assumption | exact Own.rd ‹_› | exact Rd.lh ‹_› hB | exact Own.rd (Own.lh ‹_› hB)) (by first | assumption | exact Own.rd ‹_› | exact Rd.lh ‹_› hB | exact Own.rd (Own.lh ‹_› hB)))) rfl ?_
 refine a4 (ax rfl rfl hgc7) rfl ?_
 refine oga rfl rfl (aZ (af hfin Tryd.results59 rfl ?_))
 exact ⟨rfl, hB⟩
theorem eL (v : Value) (ls : List (List UInt8)) (lo : Nat) (w : World) (h : SlB w lo v ls) (hsum : ls.flatten.length ≤ 140737488355328) : Rets Tryd.prog 25 [v] w (fun u w' => OwnB w' w.heap.size u ls.flatten ∧ Keep [] w w') := by
  obtain ⟨us, h1, h2, h3⟩ := h
  replace h3 := h3.rd
  rw [← h1] at h3
  exact j5 v us ls w h3 h2 hsum
theorem fv (g m b : Value) (gs ms bs : List UInt8) (ep fr lf kd : Int) (w : World) (hg : RdB w g gs) (hm : RdB w m ms) (hb : RdB w b bs) (lg : gs.length ≤ 65536) (lm : ms.length ≤ 65536) (lb : bs.length ≤ 65536) : Rets Tryd.prog 27 [.agg [g, .int .i64 ep, .int .i64 fr, .int .i64 lf, m, .int .i64 kd, b].toArray] w (fun u w' => OwnB w' w.heap.size u (cBytes gs ep fr lf ms kd bs) ∧ Keep [] w w') := by
  have hB : Keep [] w w := Keep.refl _ _
  refine ad Tryd.func27 rfl (by decide) Tryd.ntmps27 rfl (fun fin _ hfin => ?_)
  refine aY ?_
  refine aX ?_
  refine ah (bz (cs := [_, _, _, _, _, _, _]) rfl rfl) rfl ?_
  rintro _ w1 ⟨b1, rfl, eb1, hb1, k1, z1⟩
  have z_k1 := k1.size
  replace hB := hB.trans k1
  refine oga rfl rfl ?_
  refine aZ ?_
  refine aY ?_
  refine aX ?_
  refine oga rfl rfl ?_
  refine aZ ?_
  refine aY ?_
  refine aY ?_
  refine aX ?_
  refine a4 (ay aD rfl bJ (by decide) rfl) rfl ?_
  refine a4 (ac bZ rfl (by assumption) rfl) rfl ?_
  refine a4 (bF rfl rfl) rfl ?_
  refine aZ ?_
  refine ar rfl (fun hc1 => ?_) (fun hc1 => ?_)
  · -- yes
    refine aX ?_
    refine a4 (ay aD rfl bJ (by decide) rfl) rfl ?_
    refine a4 (ac bZ rfl (by assumption) rfl) rfl ?_
    refine ah (a7 (vs := [_, _]) rfl (cG _ _ (by omega) _)) rfl ?_
    rintro v1 w2 ⟨o1, k2⟩
    have z_k2 := k2.size
    replace hb1 := hb1.lh k2
    replace hB := hB.trans k2
    refine oga rfl rfl ?_
    refine aZ ?_
    refine aY ?_
    have hLF : (if fr = 1 then numB (bitsOf 4) lf 4 else []) = numB (bitsOf 4) lf 4 := if_pos hc1
    rw [← hLF] at o1
    refine dU 24 mixed [(1, _), (3, _), (0, _), (2, _), (4, _), (5, _), (6, _), (7, _), (8, _), (9, _)] (fun jj v W => match jj with | 0 => v = .pointer (some ⟨b1, 0 + 0, none⟩) | 1 => v = g | 2 => SlL W w2.heap.size 22 v [gs] | 3 => OwnB W w2.heap.size v (vecsB [gs]) | 4 => v = .pointer (some ⟨b1, 0 + 1, none⟩) | 5 => v = .int .i64 ep | 6 => OwnB W w2.heap.size v (numB (bitsOf 8) ep 8) | 7 => v = .pointer (some ⟨b1, 0 + 2, none⟩) | 8 => v = .int .i64 fr | 9 => OwnB W w2.heap.size v (numB (bitsOf 1) fr 1) | 10 => v = v1 | 11 => v = .pointer (some ⟨b1, 0 + 4, none⟩) | 12 => v = m | 13 => SlL W w2.heap.size 22 v [ms] | 14 => OwnB W w2.heap.size v (vecsB [ms]) | 15 => v = .pointer (some ⟨b1, 0 + 5, none⟩) | 16 => v = .int .i64 kd | 17 => OwnB W w2.heap.size v (numB (bitsOf 1) kd 1) | 18 => v = .pointer (some ⟨b1, 0 + 6, none⟩) | 19 => v = b | 20 => SlL W w2.heap.size 22 v [bs] | 21 => OwnB W w2.heap.size v (vecsB [bs]) | 22 => SlL W w2.heap.size 22 v [vecsB [gs], numB (bitsOf 8) ep 8, numB (bitsOf 1) fr 1, (if fr = 1 then numB (bitsOf 4) lf 4 else []), vecsB [ms], numB (bitsOf 1) kd 1, vecsB [bs]] | 23 => OwnB W w2.heap.size v (cBytes gs ep fr lf ms kd bs) | _ => True) ⟨rfl, rfl, rfl, rfl, rfl, rfl, rfl, rfl, rfl, rfl, trivial⟩ (by decide) (by decide) rfl ?_ ?_ ?_
    · intro jj v W W' h k
      match jj, h with
      | 0, h => exact h
      | 1, h => exact h
      | 2, h => exact h.lh k
      | 3, h => exact h.lh k
      | 4, h => exact h
      | 5, h => exact h
      | 6, h => exact h.lh k
      | 7, h => exact h
      | 8, h => exact h
      | 9, h => exact h.lh k
      | 10, h => exact h
      | 11, h => exact h
      | 12, h => exact h
      | 13, h => exact h.lh k
      | 14, h => exact h.lh k
      | 15, h => exact h
      | 16, h => exact h
      | 17, h => exact h.lh k
      | 18, h => exact h
      | 19, h => exact h
      | 20, h => exact h.lh k
      | 21, h => exact h.lh k
      | 22, h => exact h.lh k
      | 23, h => exact h.lh k
      | _ + 24, _ => trivial
    · refine ⟨?_, ?_, ?_, ?_, ?_, ?_, ?_, ?_, ?_, ?_, ?_, ?_, ?_, ?_, ?_, ?_, ?_, ?_, ?_, ?_, ?_, ?_, ?_, ?_, trivial⟩
      · refine ⟨[], rfl, ?_⟩; rintro W1 hk vs hd
        replace hb1 := hb1.lh hk
        replace o1 := o1.lh hk
        replace hB := hB.trans hk
        refine ⟨true, fun a _ => rfl, fun _ => ?_, fun h => by cases h⟩
        refine a6 [(1, _)] ⟨rfl, trivial⟩ ?_
        refine (Gives.does (ay aD rfl az (by decide) rfl)).mono ?_
        rintro v W2 ⟨rfl, rfl⟩
        exact ⟨Keep.refl _ _, rfl⟩
      · refine ⟨[0], rfl, ?_⟩; rintro W1 hk vs hd
        have d0 : (vs 0) = .pointer (some ⟨b1, 0 + 0, none⟩) := hd 0 (by decide)
        replace hb1 := hb1.lh hk
        replace o1 := o1.lh hk
        replace hB := hB.trans hk
        refine ⟨true, fun a _ => rfl, fun _ => ?_, fun h => by cases h⟩
        refine a6 [(10, .pointer (some ⟨b1, 0 + 0, none⟩))] ⟨congrArg some d0, trivial⟩ ?_
        refine (Gives.does (ac ba rfl (by assumption) rfl)).mono ?_
        rintro v W2 ⟨rfl, rfl⟩
        exact ⟨Keep.refl _ _, rfl⟩
      · refine ⟨[1], rfl, ?_⟩; rintro W1 hk vs hd
        have d1 : (vs 1) = g := hd 1 (by decide)
        replace hb1 := hb1.lh hk
        replace o1 := o1.lh hk
        replace hB := hB.trans hk
        refine ⟨true, fun a _ => rfl, fun _ => ?_, fun h => by cases h⟩
        refine a6 [(11, g)] ⟨congrArg some d1, trivial⟩ ?_
        refine (dG (m := 1) (ls := [gs]) (xs := [.tmp 11]) (us := [_]) aJ az rfl rfl (bA (by first | exact Rd.nil _ _ | exact (by first | assumption | exact Own.rd (by assumption) | exact Rd.lh (by assumption) hB | exact Own.rd (Own.lh (by assumption) hB))) (bt _)) rfl rfl).mono ?_
        rintro v W2 ⟨o1, k1⟩; exact ⟨k1, o1.lo hk.size⟩
      · refine ⟨[2], rfl, ?_⟩; rintro W1 hk vs hd
        have d2 : SlL W1 w2.heap.size 22 (vs 2) [gs] := hd 2 (by decide)
        replace hb1 := hb1.lh hk
        replace o1 := o1.lh hk
        replace hB := hB.trans hk
        refine ⟨true, fun a _ => rfl, fun _ => ?_, fun h => by cases h⟩
        refine a6 [(12, vs 2)] ⟨rfl, trivial⟩ ?_
        refine (a7 (vs := [_]) rfl (cK _ _ _ _ (by assumption) (dy (by assumption)))).mono ?_
        rintro v W2 ⟨o1, k1⟩; exact ⟨k1, o1.lo hk.size⟩
      · refine ⟨[], rfl, ?_⟩; rintro W1 hk vs hd
        replace hb1 := hb1.lh hk
        replace o1 := o1.lh hk
        replace hB := hB.trans hk
        refine ⟨true, fun a _ => rfl, fun _ => ?_, fun h => by cases h⟩
        refine a6 [(1, _)] ⟨rfl, trivial⟩ ?_
        refine (Gives.does (ay aD rfl bJ (by decide) rfl)).mono ?_
        rintro v W2 ⟨rfl, rfl⟩
        exact ⟨Keep.refl _ _, rfl⟩
      · refine ⟨[4], rfl, ?_⟩; rintro W1 hk vs hd
        have d4 : (vs 4) = .pointer (some ⟨b1, 0 + 1, none⟩) := hd 4 (by decide)
        replace hb1 := hb1.lh hk
        replace o1 := o1.lh hk
        replace hB := hB.trans hk
        refine ⟨true, fun a _ => rfl, fun _ => ?_, fun h => by cases h⟩
        refine a6 [(14, .pointer (some ⟨b1, 0 + 1, none⟩))] ⟨congrArg some d4, trivial⟩ ?_
        refine (Gives.does (ac bZ rfl (by assumption) rfl)).mono ?_
        rintro v W2 ⟨rfl, rfl⟩
        exact ⟨Keep.refl _ _, rfl⟩
      · refine ⟨[5], rfl, ?_⟩; rintro W1 hk vs hd
        have d5 : (vs 5) = .int .i64 ep := hd 5 (by decide)
        replace hb1 := hb1.lh hk
        replace o1 := o1.lh hk
        replace hB := hB.trans hk
        refine ⟨true, fun a _ => rfl, fun _ => ?_, fun h => by cases h⟩
        refine a6 [(15, .int .i64 ep)] ⟨congrArg some d5, trivial⟩ ?_
        refine (a7 (vs := [_, _]) rfl (cG _ _ (by omega) _)).mono ?_
        rintro v W2 ⟨o1, k1⟩; exact ⟨k1, o1.lo hk.size⟩
      · refine ⟨[], rfl, ?_⟩; rintro W1 hk vs hd
        replace hb1 := hb1.lh hk
        replace o1 := o1.lh hk
        replace hB := hB.trans hk
        refine ⟨true, fun a _ => rfl, fun _ => ?_, fun h => by cases h⟩
        refine a6 [(1, _)] ⟨rfl, trivial⟩ ?_
        refine (Gives.does (ay aD rfl bJ (by decide) rfl)).mono ?_
        rintro v W2 ⟨rfl, rfl⟩
        exact ⟨Keep.refl _ _, rfl⟩
      · refine ⟨[7], rfl, ?_⟩; rintro W1 hk vs hd
        have d7 : (vs 7) = .pointer (some ⟨b1, 0 + 2, none⟩) := hd 7 (by decide)
        replace hb1 := hb1.lh hk
        replace o1 := o1.lh hk
        replace hB := hB.trans hk
        refine ⟨true, fun a _ => rfl, fun _ => ?_, fun h => by cases h⟩
        refine a6 [(17, .pointer (some ⟨b1, 0 + 2, none⟩))] ⟨congrArg some d7, trivial⟩ ?_
        refine (Gives.does (ac bZ rfl (by assumption) rfl)).mono ?_
        rintro v W2 ⟨rfl, rfl⟩
        exact ⟨Keep.refl _ _, rfl⟩
      · refine ⟨[8], rfl, ?_⟩; rintro W1 hk vs hd
        have d8 : (vs 8) = .int .i64 fr := hd 8 (by decide)
        replace hb1 := hb1.lh hk
        replace o1 := o1.lh hk
        replace hB := hB.trans hk
        refine ⟨true, fun a _ => rfl, fun _ => ?_, fun h => by cases h⟩
        refine a6 [(18, .int .i64 fr)] ⟨congrArg some d8, trivial⟩ ?_
        refine (a7 (vs := [_, _]) rfl (cG _ _ (by omega) _)).mono ?_
        rintro v W2 ⟨o1, k1⟩; exact ⟨k1, o1.lo hk.size⟩
      · refine ⟨[], rfl, ?_⟩; rintro W1 hk vs hd
        replace hb1 := hb1.lh hk
        replace o1 := o1.lh hk
        replace hB := hB.trans hk
        refine ⟨true, fun a _ => rfl, fun _ => ?_, fun h => by cases h⟩
        refine a6 [(3, _)] ⟨rfl, trivial⟩ ?_
        refine (Gives.does (av rfl)).mono ?_
        rintro v W2 ⟨rfl, rfl⟩
        exact ⟨Keep.refl _ _, rfl⟩
      · refine ⟨[], rfl, ?_⟩; rintro W1 hk vs hd
        replace hb1 := hb1.lh hk
        replace o1 := o1.lh hk
        replace hB := hB.trans hk
        refine ⟨true, fun a _ => rfl, fun _ => ?_, fun h => by cases h⟩
        refine a6 [(1, _)] ⟨rfl, trivial⟩ ?_
        refine (Gives.does (ay aD rfl az (by decide) rfl)).mono ?_
        rintro v W2 ⟨rfl, rfl⟩
        exact ⟨Keep.refl _ _, rfl⟩
      · refine ⟨[11], rfl, ?_⟩; rintro W1 hk vs hd
        have d11 : (vs 11) = .pointer (some ⟨b1, 0 + 4, none⟩) := hd 11 (by decide)
        replace hb1 := hb1.lh hk
        replace o1 := o1.lh hk
        replace hB := hB.trans hk
        refine ⟨true, fun a _ => rfl, fun _ => ?_, fun h => by cases h⟩
        refine a6 [(21, .pointer (some ⟨b1, 0 + 4, none⟩))] ⟨congrArg some d11, trivial⟩ ?_
        refine (Gives.does (ac ba rfl (by assumption) rfl)).mono ?_
        rintro v W2 ⟨rfl, rfl⟩
        exact ⟨Keep.refl _ _, rfl⟩
      · refine ⟨[12], rfl, ?_⟩; rintro W1 hk vs hd
        have d12 : (vs 12) = m := hd 12 (by decide)
        replace hb1 := hb1.lh hk
        replace o1 := o1.lh hk
        replace hB := hB.trans hk
        refine ⟨true, fun a _ => rfl, fun _ => ?_, fun h => by cases h⟩
        refine a6 [(22, m)] ⟨congrArg some d12, trivial⟩ ?_
        refine (dG (m := 1) (ls := [ms]) (xs := [.tmp 22]) (us := [_]) aJ az rfl rfl (bA (by first | exact Rd.nil _ _ | exact (by first | assumption | exact Own.rd (by assumption) | exact Rd.lh (by assumption) hB | exact Own.rd (Own.lh (by assumption) hB))) (bt _)) rfl rfl).mono ?_
        rintro v W2 ⟨o1, k1⟩; exact ⟨k1, o1.lo hk.size⟩
      · refine ⟨[13], rfl, ?_⟩; rintro W1 hk vs hd
        have d13 : SlL W1 w2.heap.size 22 (vs 13) [ms] := hd 13 (by decide)
        replace hb1 := hb1.lh hk
        replace o1 := o1.lh hk
        replace hB := hB.trans hk
        refine ⟨true, fun a _ => rfl, fun _ => ?_, fun h => by cases h⟩
        refine a6 [(23, vs 13)] ⟨rfl, trivial⟩ ?_
        refine (a7 (vs := [_]) rfl (cK _ _ _ _ (by assumption) (dy (by assumption)))).mono ?_
        rintro v W2 ⟨o1, k1⟩; exact ⟨k1, o1.lo hk.size⟩
      · refine ⟨[], rfl, ?_⟩; rintro W1 hk vs hd
        replace hb1 := hb1.lh hk
        replace o1 := o1.lh hk
        replace hB := hB.trans hk
        refine ⟨true, fun a _ => rfl, fun _ => ?_, fun h => by cases h⟩
        refine a6 [(1, _)] ⟨rfl, trivial⟩ ?_
        refine (Gives.does (ay aD rfl bJ (by decide) rfl)).mono ?_
        rintro v W2 ⟨rfl, rfl⟩
        exact ⟨Keep.refl _ _, rfl⟩
      · refine ⟨[15], rfl, ?_⟩; rintro W1 hk vs hd
        have d15 : (vs 15) = .pointer (some ⟨b1, 0 + 5, none⟩) := hd 15 (by decide)
        replace hb1 := hb1.lh hk
        replace o1 := o1.lh hk
        replace hB := hB.trans hk
        refine ⟨true, fun a _ => rfl, fun _ => ?_, fun h => by cases h⟩
        refine a6 [(25, .pointer (some ⟨b1, 0 + 5, none⟩))] ⟨congrArg some d15, trivial⟩ ?_
        refine (Gives.does (ac bZ rfl (by assumption) rfl)).mono ?_
        rintro v W2 ⟨rfl, rfl⟩
        exact ⟨Keep.refl _ _, rfl⟩
      · refine ⟨[16], rfl, ?_⟩; rintro W1 hk vs hd
        have d16 : (vs 16) = .int .i64 kd := hd 16 (by decide)
        replace hb1 := hb1.lh hk
        replace o1 := o1.lh hk
        replace hB := hB.trans hk
        refine ⟨true, fun a _ => rfl, fun _ => ?_, fun h => by cases h⟩
        refine a6 [(26, .int .i64 kd)] ⟨congrArg some d16, trivial⟩ ?_
        refine (a7 (vs := [_, _]) rfl (cG _ _ (by omega) _)).mono ?_
        rintro v W2 ⟨o1, k1⟩; exact ⟨k1, o1.lo hk.size⟩
      · refine ⟨[], rfl, ?_⟩; rintro W1 hk vs hd
        replace hb1 := hb1.lh hk
        replace o1 := o1.lh hk
        replace hB := hB.trans hk
        refine ⟨true, fun a _ => rfl, fun _ => ?_, fun h => by cases h⟩
        refine a6 [(1, _)] ⟨rfl, trivial⟩ ?_
        refine (Gives.does (ay aD rfl az (by decide) rfl)).mono ?_
        rintro v W2 ⟨rfl, rfl⟩
        exact ⟨Keep.refl _ _, rfl⟩
      · refine ⟨[18], rfl, ?_⟩; rintro W1 hk vs hd
        have d18 : (vs 18) = .pointer (some ⟨b1, 0 + 6, none⟩) := hd 18 (by decide)
        replace hb1 := hb1.lh hk
        replace o1 := o1.lh hk
        replace hB := hB.trans hk
        refine ⟨true, fun a _ => rfl, fun _ => ?_, fun h => by cases h⟩
        refine a6 [(28, .pointer (some ⟨b1, 0 + 6, none⟩))] ⟨congrArg some d18, trivial⟩ ?_
        refine (Gives.does (ac ba rfl (by assumption) rfl)).mono ?_
        rintro v W2 ⟨rfl, rfl⟩
        exact ⟨Keep.refl _ _, rfl⟩
      · refine ⟨[19], rfl, ?_⟩; rintro W1 hk vs hd
        have d19 : (vs 19) = b := hd 19 (by decide)
        replace hb1 := hb1.lh hk
        replace o1 := o1.lh hk
        replace hB := hB.trans hk
        refine ⟨true, fun a _ => rfl, fun _ => ?_, fun h => by cases h⟩
        refine a6 [(29, b)] ⟨congrArg some d19, trivial⟩ ?_
        refine (dG (m := 1) (ls := [bs]) (xs := [.tmp 29]) (us := [_]) aJ az rfl rfl (bA (by first | exact Rd.nil _ _ | exact (by first | assumption | exact Own.rd (by assumption) | exact Rd.lh (by assumption) hB | exact Own.rd (Own.lh (by assumption) hB))) (bt _)) rfl rfl).mono ?_
        rintro v W2 ⟨o1, k1⟩; exact ⟨k1, o1.lo hk.size⟩
      · refine ⟨[20], rfl, ?_⟩; rintro W1 hk vs hd
        have d20 : SlL W1 w2.heap.size 22 (vs 20) [bs] := hd 20 (by decide)
        replace hb1 := hb1.lh hk
        replace o1 := o1.lh hk
        replace hB := hB.trans hk
        refine ⟨true, fun a _ => rfl, fun _ => ?_, fun h => by cases h⟩
        refine a6 [(30, vs 20)] ⟨rfl, trivial⟩ ?_
        refine (a7 (vs := [_]) rfl (cK _ _ _ _ (by assumption) (dy (by assumption)))).mono ?_
        rintro v W2 ⟨o1, k1⟩; exact ⟨k1, o1.lo hk.size⟩
      · refine ⟨[3, 6, 9, 10, 14, 17, 21], rfl, ?_⟩; rintro W1 hk vs hd
        have d3 : OwnB W1 w2.heap.size (vs 3) (vecsB [gs]) := hd 3 (by decide)
        have d6 : OwnB W1 w2.heap.size (vs 6) (numB (bitsOf 8) ep 8) := hd 6 (by decide)
        have d9 : OwnB W1 w2.heap.size (vs 9) (numB (bitsOf 1) fr 1) := hd 9 (by decide)
        have d10 : (vs 10) = v1 := hd 10 (by decide)
        have d14 : OwnB W1 w2.heap.size (vs 14) (vecsB [ms]) := hd 14 (by decide)
        have d17 : OwnB W1 w2.heap.size (vs 17) (numB (bitsOf 1) kd 1) := hd 17 (by decide)
        have d21 : OwnB W1 w2.heap.size (vs 21) (vecsB [bs]) := hd 21 (by decide)
        replace hb1 := hb1.lh hk
        replace o1 := o1.lh hk
        replace hB := hB.trans hk
        refine ⟨true, fun a _ => rfl, fun _ => ?_, fun h => by cases h⟩
        refine a6 [(13, vs 3), (16, vs 6), (19, vs 9), (20, v1), (24, vs 14), (27, vs 17), (31, vs 21)] ⟨rfl, rfl, rfl, congrArg some d10, rfl, rfl, rfl, trivial⟩ ?_
        refine (dG (m := 7) (ls := [vecsB [gs], numB (bitsOf 8) ep 8, numB (bitsOf 1) fr 1, (if fr = 1 then numB (bitsOf 4) lf 4 else []), vecsB [ms], numB (bitsOf 1) kd 1, vecsB [bs]]) (xs := [.tmp 13, .tmp 16, .tmp 19, .tmp 20, .tmp 24, .tmp 27, .tmp 31]) (us := [_, _, _, _, _, _, _]) aJ az rfl rfl (bA (by first | exact Rd.nil _ _ | exact (by first | assumption | exact Own.rd (by assumption) | exact Rd.lh (by assumption) hB | exact Own.rd (Own.lh (by assumption) hB))) (bA (by first | exact Rd.nil _ _ | exact (by first | assumption | exact Own.rd (by assumption) | exact Rd.lh (by assumption) hB | exact Own.rd (Own.lh (by assumption) hB))) (bA (by first | exact Rd.nil _ _ | exact (by first | assumption | exact Own.rd (by assumption) | exact Rd.lh (by assumption) hB | exact Own.rd (Own.lh (by assumption) hB))) (bA (by first | exact Rd.nil _ _ | exact (by first | assumption | exact Own.rd (by assumption) | exact Rd.lh (by assumption) hB | exact Own.rd (Own.lh (by assumption) hB))) (bA (by first | exact Rd.nil _ _ | exact (by first | assumption | exact Own.rd (by assumption) | exact Rd.lh (by assumption) hB | exact Own.rd (Own.lh (by assumption) hB))) (bA (by first | exact Rd.nil _ _ | exact (by first | assumption | exact Own.rd (by assumption) | exact Rd.lh (by assumption) hB | exact Own.rd (Own.lh (by assumption) hB))) (bA (by first | exact Rd.nil _ _ | exact (by first | assumption | exact Own.rd (by assumption) | exact Rd.lh (by assumption) hB | exact Own.rd (Own.lh (by assumption) hB))) (bt _)))))))) rfl rfl).mono ?_
        rintro v W2 ⟨o1, k1⟩; exact ⟨k1, o1.lo hk.size⟩
      · refine ⟨[22], rfl, ?_⟩; rintro W1 hk vs hd
        have d22 : SlL W1 w2.heap.size 22 (vs 22) [vecsB [gs], numB (bitsOf 8) ep 8, numB (bitsOf 1) fr 1, (if fr = 1 then numB (bitsOf 4) lf 4 else []), vecsB [ms], numB (bitsOf 1) kd 1, vecsB [bs]] := hd 22 (by decide)
        replace hb1 := hb1.lh hk
        replace o1 := o1.lh hk
        replace hB := hB.trans hk
        refine ⟨true, fun a _ => rfl, fun _ => ?_, fun h => by cases h⟩
        refine a6 [(32, vs 22)] ⟨rfl, trivial⟩ ?_
        refine (a7 (vs := [_]) rfl (eL _ _ _ _ (by assumption) (iI gs ep fr lf ms kd bs))).mono ?_
        rintro v W2 ⟨o1, k1⟩; exact ⟨k1, o1.lo hk.size⟩
    rintro w3 k3 vs hv
    have z_k3 := k3.size
    replace hb1 := hb1.lh k3
    replace o1 := o1.lh k3
    replace hB := hB.trans k3
    have e33 : OwnB w3 w2.heap.size (vs 23) (cBytes gs ep fr lf ms kd bs) := hv 23 (by decide) rfl
    refine dR [(33, vs 23), (1, _), (3, _), (0, _), (2, _), (4, _), (5, _), (6, _), (7, _), (8, _), (9, _)] ⟨rfl, rfl, rfl, rfl, rfl, rfl, rfl, rfl, rfl, rfl, rfl, trivial⟩ ?_
    have o2 := e33
    refine oga rfl rfl ?_
    refine aZ ?_
    refine af hfin Tryd.results27 rfl ?_
    exact ⟨(by assumption : OwnB _ _ _ _).lo (by omega), hB⟩
  · -- no
    refine a8 ?_
    refine aY ?_
    have onil : RdB w (.slice none 0 0) (if fr = 1 then numB (bitsOf 4) lf 4 else []) := by rw [if_neg hc1]; exact Rd.nil _ _
    refine dU 24 mixed [(1, _), (3, _), (0, _), (2, _), (4, _), (5, _), (6, _)] (fun jj v W => match jj with | 0 => v = .pointer (some ⟨b1, 0 + 0, none⟩) | 1 => v = g | 2 => SlL W w1.heap.size 22 v [gs] | 3 => OwnB W w1.heap.size v (vecsB [gs]) | 4 => v = .pointer (some ⟨b1, 0 + 1, none⟩) | 5 => v = .int .i64 ep | 6 => OwnB W w1.heap.size v (numB (bitsOf 8) ep 8) | 7 => v = .pointer (some ⟨b1, 0 + 2, none⟩) | 8 => v = .int .i64 fr | 9 => OwnB W w1.heap.size v (numB (bitsOf 1) fr 1) | 10 => v = .slice none 0 0 | 11 => v = .pointer (some ⟨b1, 0 + 4, none⟩) | 12 => v = m | 13 => SlL W w1.heap.size 22 v [ms] | 14 => OwnB W w1.heap.size v (vecsB [ms]) | 15 => v = .pointer (some ⟨b1, 0 + 5, none⟩) | 16 => v = .int .i64 kd | 17 => OwnB W w1.heap.size v (numB (bitsOf 1) kd 1) | 18 => v = .pointer (some ⟨b1, 0 + 6, none⟩) | 19 => v = b | 20 => SlL W w1.heap.size 22 v [bs] | 21 => OwnB W w1.heap.size v (vecsB [bs]) | 22 => SlL W w1.heap.size 22 v [vecsB [gs], numB (bitsOf 8) ep 8, numB (bitsOf 1) fr 1, (if fr = 1 then numB (bitsOf 4) lf 4 else []), vecsB [ms], numB (bitsOf 1) kd 1, vecsB [bs]] | 23 => OwnB W w1.heap.size v (cBytes gs ep fr lf ms kd bs) | _ => True) ⟨rfl, rfl, rfl, rfl, rfl, rfl, rfl, trivial⟩ (by decide) (by decide) rfl ?_ ?_ ?_
    · intro jj v W W' h k
      match jj, h with
      | 0, h => exact h
      | 1, h => exact h
      | 2, h => exact h.lh k
      | 3, h => exact h.lh k
      | 4, h => exact h
      | 5, h => exact h
      | 6, h => exact h.lh k
      | 7, h => exact h
      | 8, h => exact h
      | 9, h => exact h.lh k
      | 10, h => exact h
      | 11, h => exact h
      | 12, h => exact h
      | 13, h => exact h.lh k
      | 14, h => exact h.lh k
      | 15, h => exact h
      | 16, h => exact h
      | 17, h => exact h.lh k
      | 18, h => exact h
      | 19, h => exact h
      | 20, h => exact h.lh k
      | 21, h => exact h.lh k
      | 22, h => exact h.lh k
      | 23, h => exact h.lh k
      | _ + 24, _ => trivial
    · refine ⟨?_, ?_, ?_, ?_, ?_, ?_, ?_, ?_, ?_, ?_, ?_, ?_, ?_, ?_, ?_, ?_, ?_, ?_, ?_, ?_, ?_, ?_, ?_, ?_, trivial⟩
      · refine ⟨[], rfl, ?_⟩; rintro W1 hk vs hd
        replace hb1 := hb1.lh hk
        replace hB := hB.trans hk
        refine ⟨true, fun a _ => rfl, fun _ => ?_, fun h => by cases h⟩
        refine a6 [(1, _)] ⟨rfl, trivial⟩ ?_
        refine (Gives.does (ay aD rfl az (by decide) rfl)).mono ?_
        rintro v W2 ⟨rfl, rfl⟩
        exact ⟨Keep.refl _ _, rfl⟩
      · refine ⟨[0], rfl, ?_⟩; rintro W1 hk vs hd
        have d0 : (vs 0) = .pointer (some ⟨b1, 0 + 0, none⟩) := hd 0 (by decide)
        replace hb1 := hb1.lh hk
        replace hB := hB.trans hk
        refine ⟨true, fun a _ => rfl, fun _ => ?_, fun h => by cases h⟩
        refine a6 [(10, .pointer (some ⟨b1, 0 + 0, none⟩))] ⟨congrArg some d0, trivial⟩ ?_
        refine (Gives.does (ac ba rfl (by assumption) rfl)).mono ?_
        rintro v W2 ⟨rfl, rfl⟩
        exact ⟨Keep.refl _ _, rfl⟩
      · refine ⟨[1], rfl, ?_⟩; rintro W1 hk vs hd
        have d1 : (vs 1) = g := hd 1 (by decide)
        replace hb1 := hb1.lh hk
        replace hB := hB.trans hk
        refine ⟨true, fun a _ => rfl, fun _ => ?_, fun h => by cases h⟩
        refine a6 [(11, g)] ⟨congrArg some d1, trivial⟩ ?_
        refine (dG (m := 1) (ls := [gs]) (xs := [.tmp 11]) (us := [_]) aJ az rfl rfl (bA (by first | exact Rd.nil _ _ | exact (by first | assumption | exact Own.rd (by assumption) | exact Rd.lh (by assumption) hB | exact Own.rd (Own.lh (by assumption) hB))) (bt _)) rfl rfl).mono ?_
        rintro v W2 ⟨o1, k1⟩; exact ⟨k1, o1.lo hk.size⟩
      · refine ⟨[2], rfl, ?_⟩; rintro W1 hk vs hd
        have d2 : SlL W1 w1.heap.size 22 (vs 2) [gs] := hd 2 (by decide)
        replace hb1 := hb1.lh hk
        replace hB := hB.trans hk
        refine ⟨true, fun a _ => rfl, fun _ => ?_, fun h => by cases h⟩
        refine a6 [(12, vs 2)] ⟨rfl, trivial⟩ ?_
        refine (a7 (vs := [_]) rfl (cK _ _ _ _ (by assumption) (dy (by assumption)))).mono ?_
        rintro v W2 ⟨o1, k1⟩; exact ⟨k1, o1.lo hk.size⟩
      · refine ⟨[], rfl, ?_⟩; rintro W1 hk vs hd
        replace hb1 := hb1.lh hk
        replace hB := hB.trans hk
        refine ⟨true, fun a _ => rfl, fun _ => ?_, fun h => by cases h⟩
        refine a6 [(1, _)] ⟨rfl, trivial⟩ ?_
        refine (Gives.does (ay aD rfl bJ (by decide) rfl)).mono ?_
        rintro v W2 ⟨rfl, rfl⟩
        exact ⟨Keep.refl _ _, rfl⟩
      · refine ⟨[4], rfl, ?_⟩; rintro W1 hk vs hd
        have d4 : (vs 4) = .pointer (some ⟨b1, 0 + 1, none⟩) := hd 4 (by decide)
        replace hb1 := hb1.lh hk
        replace hB := hB.trans hk
        refine ⟨true, fun a _ => rfl, fun _ => ?_, fun h => by cases h⟩
        refine a6 [(14, .pointer (some ⟨b1, 0 + 1, none⟩))] ⟨congrArg some d4, trivial⟩ ?_
        refine (Gives.does (ac bZ rfl (by assumption) rfl)).mono ?_
        rintro v W2 ⟨rfl, rfl⟩
        exact ⟨Keep.refl _ _, rfl⟩
      · refine ⟨[5], rfl, ?_⟩; rintro W1 hk vs hd
        have d5 : (vs 5) = .int .i64 ep := hd 5 (by decide)
        replace hb1 := hb1.lh hk
        replace hB := hB.trans hk
        refine ⟨true, fun a _ => rfl, fun _ => ?_, fun h => by cases h⟩
        refine a6 [(15, .int .i64 ep)] ⟨congrArg some d5, trivial⟩ ?_
        refine (a7 (vs := [_, _]) rfl (cG _ _ (by omega) _)).mono ?_
        rintro v W2 ⟨o1, k1⟩; exact ⟨k1, o1.lo hk.size⟩
      · refine ⟨[], rfl, ?_⟩; rintro W1 hk vs hd
        replace hb1 := hb1.lh hk
        replace hB := hB.trans hk
        refine ⟨true, fun a _ => rfl, fun _ => ?_, fun h => by cases h⟩
        refine a6 [(1, _)] ⟨rfl, trivial⟩ ?_
        refine (Gives.does (ay aD rfl bJ (by decide) rfl)).mono ?_
        rintro v W2 ⟨rfl, rfl⟩
        exact ⟨Keep.refl _ _, rfl⟩
      · refine ⟨[7], rfl, ?_⟩; rintro W1 hk vs hd
        have d7 : (vs 7) = .pointer (some ⟨b1, 0 + 2, none⟩) := hd 7 (by decide)
        replace hb1 := hb1.lh hk
        replace hB := hB.trans hk
        refine ⟨true, fun a _ => rfl, fun _ => ?_, fun h => by cases h⟩
        refine a6 [(17, .pointer (some ⟨b1, 0 + 2, none⟩))] ⟨congrArg some d7, trivial⟩ ?_
        refine (Gives.does (ac bZ rfl (by assumption) rfl)).mono ?_
        rintro v W2 ⟨rfl, rfl⟩
        exact ⟨Keep.refl _ _, rfl⟩
      · refine ⟨[8], rfl, ?_⟩; rintro W1 hk vs hd
        have d8 : (vs 8) = .int .i64 fr := hd 8 (by decide)
        replace hb1 := hb1.lh hk
        replace hB := hB.trans hk
        refine ⟨true, fun a _ => rfl, fun _ => ?_, fun h => by cases h⟩
        refine a6 [(18, .int .i64 fr)] ⟨congrArg some d8, trivial⟩ ?_
        refine (a7 (vs := [_, _]) rfl (cG _ _ (by omega) _)).mono ?_
        rintro v W2 ⟨o1, k1⟩; exact ⟨k1, o1.lo hk.size⟩
      · refine ⟨[], rfl, ?_⟩; rintro W1 hk vs hd
        replace hb1 := hb1.lh hk
        replace hB := hB.trans hk
        refine ⟨true, fun a _ => rfl, fun _ => ?_, fun h => by cases h⟩
        refine a6 [(3, _)] ⟨rfl, trivial⟩ ?_
        refine (Gives.does (av rfl)).mono ?_
        rintro v W2 ⟨rfl, rfl⟩
        exact ⟨Keep.refl _ _, rfl⟩
      · refine ⟨[], rfl, ?_⟩; rintro W1 hk vs hd
        replace hb1 := hb1.lh hk
        replace hB := hB.trans hk
        refine ⟨true, fun a _ => rfl, fun _ => ?_, fun h => by cases h⟩
        refine a6 [(1, _)] ⟨rfl, trivial⟩ ?_
        refine (Gives.does (ay aD rfl az (by decide) rfl)).mono ?_
        rintro v W2 ⟨rfl, rfl⟩
        exact ⟨Keep.refl _ _, rfl⟩
      · refine ⟨[11], rfl, ?_⟩; rintro W1 hk vs hd
        have d11 : (vs 11) = .pointer (some ⟨b1, 0 + 4, none⟩) := hd 11 (by decide)
        replace hb1 := hb1.lh hk
        replace hB := hB.trans hk
        refine ⟨true, fun a _ => rfl, fun _ => ?_, fun h => by cases h⟩
        refine a6 [(21, .pointer (some ⟨b1, 0 + 4, none⟩))] ⟨congrArg some d11, trivial⟩ ?_
        refine (Gives.does (ac ba rfl (by assumption) rfl)).mono ?_
        rintro v W2 ⟨rfl, rfl⟩
        exact ⟨Keep.refl _ _, rfl⟩
      · refine ⟨[12], rfl, ?_⟩; rintro W1 hk vs hd
        have d12 : (vs 12) = m := hd 12 (by decide)
        replace hb1 := hb1.lh hk
        replace hB := hB.trans hk
        refine ⟨true, fun a _ => rfl, fun _ => ?_, fun h => by cases h⟩
        refine a6 [(22, m)] ⟨congrArg some d12, trivial⟩ ?_
        refine (dG (m := 1) (ls := [ms]) (xs := [.tmp 22]) (us := [_]) aJ az rfl rfl (bA (by first | exact Rd.nil _ _ | exact (by first | assumption | exact Own.rd (by assumption) | exact Rd.lh (by assumption) hB | exact Own.rd (Own.lh (by assumption) hB))) (bt _)) rfl rfl).mono ?_
        rintro v W2 ⟨o1, k1⟩; exact ⟨k1, o1.lo hk.size⟩
      · refine ⟨[13], rfl, ?_⟩; rintro W1 hk vs hd
        have d13 : SlL W1 w1.heap.size 22 (vs 13) [ms] := hd 13 (by decide)
        replace hb1 := hb1.lh hk
        replace hB := hB.trans hk
        refine ⟨true, fun a _ => rfl, fun _ => ?_, fun h => by cases h⟩
        refine a6 [(23, vs 13)] ⟨rfl, trivial⟩ ?_
        refine (a7 (vs := [_]) rfl (cK _ _ _ _ (by assumption) (dy (by assumption)))).mono ?_
        rintro v W2 ⟨o1, k1⟩; exact ⟨k1, o1.lo hk.size⟩
      · refine ⟨[], rfl, ?_⟩; rintro W1 hk vs hd
        replace hb1 := hb1.lh hk
        replace hB := hB.trans hk
        refine ⟨true, fun a _ => rfl, fun _ => ?_, fun h => by cases h⟩
        refine a6 [(1, _)] ⟨rfl, trivial⟩ ?_
        refine (Gives.does (ay aD rfl bJ (by decide) rfl)).mono ?_
        rintro v W2 ⟨rfl, rfl⟩
        exact ⟨Keep.refl _ _, rfl⟩
      · refine ⟨[15], rfl, ?_⟩; rintro W1 hk vs hd
        have d15 : (vs 15) = .pointer (some ⟨b1, 0 + 5, none⟩) := hd 15 (by decide)
        replace hb1 := hb1.lh hk
        replace hB := hB.trans hk
        refine ⟨true, fun a _ => rfl, fun _ => ?_, fun h => by cases h⟩
        refine a6 [(25, .pointer (some ⟨b1, 0 + 5, none⟩))] ⟨congrArg some d15, trivial⟩ ?_
        refine (Gives.does (ac bZ rfl (by assumption) rfl)).mono ?_
        rintro v W2 ⟨rfl, rfl⟩
        exact ⟨Keep.refl _ _, rfl⟩
      · refine ⟨[16], rfl, ?_⟩; rintro W1 hk vs hd
        have d16 : (vs 16) = .int .i64 kd := hd 16 (by decide)
        replace hb1 := hb1.lh hk
        replace hB := hB.trans hk
        refine ⟨true, fun a _ => rfl, fun _ => ?_, fun h => by cases h⟩
        refine a6 [(26, .int .i64 kd)] ⟨congrArg some d16, trivial⟩ ?_
        refine (a7 (vs := [_, _]) rfl (cG _ _ (by omega) _)).mono ?_
        rintro v W2 ⟨o1, k1⟩; exact ⟨k1, o1.lo hk.size⟩
      · refine ⟨[], rfl, ?_⟩; rintro W1 hk vs hd
        replace hb1 := hb1.lh hk
        replace hB := hB.trans hk
        refine ⟨true, fun a _ => rfl, fun _ => ?_, fun h => by cases h⟩
        refine a6 [(1, _)] ⟨rfl, trivial⟩ ?_
        refine (Gives.does (ay aD rfl az (by decide) rfl)).mono ?_
        rintro v W2 ⟨rfl, rfl⟩
        exact ⟨Keep.refl _ _, rfl⟩
      · refine ⟨[18], rfl, ?_⟩; rintro W1 hk vs hd
        have d18 : (vs 18) = .pointer (some ⟨b1, 0 + 6, none⟩) := hd 18 (by decide)
        replace hb1 := hb1.lh hk
        replace hB := hB.trans hk
        refine ⟨true, fun a _ => rfl, fun _ => ?_, fun h => by cases h⟩
        refine a6 [(28, .pointer (some ⟨b1, 0 + 6, none⟩))] ⟨congrArg some d18, trivial⟩ ?_
        refine (Gives.does (ac ba rfl (by assumption) rfl)).mono ?_
        rintro v W2 ⟨rfl, rfl⟩
        exact ⟨Keep.refl _ _, rfl⟩
      · refine ⟨[19], rfl, ?_⟩; rintro W1 hk vs hd
        have d19 : (vs 19) = b := hd 19 (by decide)
        replace hb1 := hb1.lh hk
        replace hB := hB.trans hk
        refine ⟨true, fun a _ => rfl, fun _ => ?_, fun h => by cases h⟩
        refine a6 [(29, b)] ⟨congrArg some d19, trivial⟩ ?_
        refine (dG (m := 1) (ls := [bs]) (xs := [.tmp 29]) (us := [_]) aJ az rfl rfl (bA (by first | exact Rd.nil _ _ | exact (by first | assumption | exact Own.rd (by assumption) | exact Rd.lh (by assumption) hB | exact Own.rd (Own.lh (by assumption) hB))) (bt _)) rfl rfl).mono ?_
        rintro v W2 ⟨o1, k1⟩; exact ⟨k1, o1.lo hk.size⟩
      · refine ⟨[20], rfl, ?_⟩; rintro W1 hk vs hd
        have d20 : SlL W1 w1.heap.size 22 (vs 20) [bs] := hd 20 (by decide)
        replace hb1 := hb1.lh hk
        replace hB := hB.trans hk
        refine ⟨true, fun a _ => rfl, fun _ => ?_, fun h => by cases h⟩
        refine a6 [(30, vs 20)] ⟨rfl, trivial⟩ ?_
        refine (a7 (vs := [_]) rfl (cK _ _ _ _ (by assumption) (dy (by assumption)))).mono ?_
        rintro v W2 ⟨o1, k1⟩; exact ⟨k1, o1.lo hk.size⟩
      · refine ⟨[3, 6, 9, 10, 14, 17, 21], rfl, ?_⟩; rintro W1 hk vs hd
        have d3 : OwnB W1 w1.heap.size (vs 3) (vecsB [gs]) := hd 3 (by decide)
        have d6 : OwnB W1 w1.heap.size (vs 6) (numB (bitsOf 8) ep 8) := hd 6 (by decide)
        have d9 : OwnB W1 w1.heap.size (vs 9) (numB (bitsOf 1) fr 1) := hd 9 (by decide)
        have d10 : (vs 10) = .slice none 0 0 := hd 10 (by decide)
        have d14 : OwnB W1 w1.heap.size (vs 14) (vecsB [ms]) := hd 14 (by decide)
        have d17 : OwnB W1 w1.heap.size (vs 17) (numB (bitsOf 1) kd 1) := hd 17 (by decide)
        have d21 : OwnB W1 w1.heap.size (vs 21) (vecsB [bs]) := hd 21 (by decide)
        replace hb1 := hb1.lh hk
        replace hB := hB.trans hk
        refine ⟨true, fun a _ => rfl, fun _ => ?_, fun h => by cases h⟩
        refine a6 [(13, vs 3), (16, vs 6), (19, vs 9), (20, .slice none 0 0), (24, vs 14), (27, vs 17), (31, vs 21)] ⟨rfl, rfl, rfl, congrArg some d10, rfl, rfl, rfl, trivial⟩ ?_
        refine (dG (m := 7) (ls := [vecsB [gs], numB (bitsOf 8) ep 8, numB (bitsOf 1) fr 1, (if fr = 1 then numB (bitsOf 4) lf 4 else []), vecsB [ms], numB (bitsOf 1) kd 1, vecsB [bs]]) (xs := [.tmp 13, .tmp 16, .tmp 19, .tmp 20, .tmp 24, .tmp 27, .tmp 31]) (us := [_, _, _, _, _, _, _]) aJ az rfl rfl (bA (by first | exact Rd.nil _ _ | exact (by first | assumption | exact Own.rd (by assumption) | exact Rd.lh (by assumption) hB | exact Own.rd (Own.lh (by assumption) hB))) (bA (by first | exact Rd.nil _ _ | exact (by first | assumption | exact Own.rd (by assumption) | exact Rd.lh (by assumption) hB | exact Own.rd (Own.lh (by assumption) hB))) (bA (by first | exact Rd.nil _ _ | exact (by first | assumption | exact Own.rd (by assumption) | exact Rd.lh (by assumption) hB | exact Own.rd (Own.lh (by assumption) hB))) (bA (by first | exact Rd.nil _ _ | exact (by first | assumption | exact Own.rd (by assumption) | exact Rd.lh (by assumption) hB | exact Own.rd (Own.lh (by assumption) hB))) (bA (by first | exact Rd.nil _ _ | exact (by first | assumption | exact Own.rd (by assumption) | exact Rd.lh (by assumption) hB | exact Own.rd (Own.lh (by assumption) hB))) (bA (by first | exact Rd.nil _ _ | exact (by first | assumption | exact Own.rd (by assumption) | exact Rd.lh (by assumption) hB | exact Own.rd (Own.lh (by assumption) hB))) (bA (by first | exact Rd.nil _ _ | exact (by first | assumption | exact Own.rd (by assumption) | exact Rd.lh (by assumption) hB | exact Own.rd (Own.lh (by assumption) hB))) (bt _)))))))) rfl rfl).mono ?_
        rintro v W2 ⟨o1, k1⟩; exact ⟨k1, o1.lo hk.size⟩
      · refine ⟨[22], rfl, ?_⟩; rintro W1 hk vs hd
        have d22 : SlL W1 w1.heap.size 22 (vs 22) [vecsB [gs], numB (bitsOf 8) ep 8, numB (bitsOf 1) fr 1, (if fr = 1 then numB (bitsOf 4) lf 4 else []), vecsB [ms], numB (bitsOf 1) kd 1, vecsB [bs]] := hd 22 (by decide)
        replace hb1 := hb1.lh hk
        replace hB := hB.trans hk
        refine ⟨true, fun a _ => rfl, fun _ => ?_, fun h => by cases h⟩
        refine a6 [(32, vs 22)] ⟨rfl, trivial⟩ ?_
        refine (a7 (vs := [_]) rfl (eL _ _ _ _ (by assumption) (iI gs ep fr lf ms kd bs))).mono ?_
        rintro v W2 ⟨o1, k1⟩; exact ⟨k1, o1.lo hk.size⟩
    rintro w4 k4 vs hv
    have z_k4 := k4.size
    replace hb1 := hb1.lh k4
    replace hB := hB.trans k4
    have e33 : OwnB w4 w1.heap.size (vs 23) (cBytes gs ep fr lf ms kd bs) := hv 23 (by decide) rfl
    refine dR [(33, vs 23), (1, _), (3, _), (0, _), (2, _), (4, _), (5, _), (6, _)] ⟨rfl, rfl, rfl, rfl, rfl, rfl, rfl, rfl, trivial⟩ ?_
    have o3 := e33
    refine oga rfl rfl ?_
    refine aZ ?_
    refine af hfin Tryd.results27 rfl ?_
    exact ⟨(by assumption : OwnB _ _ _ _).lo (by omega), hB⟩
theorem ga {gs : List UInt8} {ep fr lf : Int} {ms : List UInt8} {kd : Int} {bs : List UInt8} (h : rightB gs ep fr lf ms kd bs = true) : gs.length ≤ 65536 ∧ ms.length ≤ 65536 ∧ bs.length ≤ 65536 := by
 simp only [rightB, comB, Bool.and_eq_true, decide_eq_true_eq] at h
 omega
def putE (gs : List UInt8) (ep fr lf : Int) (ms : List UInt8) (kd : Int) (bs : List UInt8) : Int := bif rightB gs ep fr lf ms kd bs then 0 else 1
def putB (gs : List UInt8) (ep fr lf : Int) (ms : List UInt8) (kd : Int) (bs : List UInt8) : List UInt8 := bif rightB gs ep fr lf ms kd bs then cBytes gs ep fr lf ms kd bs else []
theorem gH (g m b : Value) (gs ms bs : List UInt8) (ep fr lf kd : Int) (w : World) (hg : RdB w g gs) (hm : RdB w m ms) (hb : RdB w b bs) : Rets Tryd.prog 41 [.agg [g, .int .i64 ep, .int .i64 fr, .int .i64 lf, m, .int .i64 kd, b].toArray] w (fun v w' => ∃ u, v = .tuple #[u, .int .i64 (putE gs ep fr lf ms kd bs)] ∧ OwnB w' w.heap.size u (putB gs ep fr lf ms kd bs) ∧ Keep [] w w') := by
  have hB : Keep [] w w := Keep.refl _ _
  refine ad Tryd.func41 rfl (by decide) Tryd.ntmps41 rfl (fun fin _ hfin => ?_)
  refine aY ?_
  refine aX ?_
  refine ah (bz (cs := [_, _, _, _, _, _, _]) rfl rfl) rfl ?_
  rintro _ w1 ⟨b1, rfl, eb1, hb1, k1, z1⟩
  have z_k1 := k1.size
  replace hB := hB.trans k1
  refine oga rfl rfl ?_
  refine oga rfl rfl ?_
  refine aZ ?_
  refine aY ?_
  refine aY ?_
  refine aX ?_
  refine a4 (an (cs' := [_, _, _, _, _, _, _]) fx dd rfl (by assumption) rfl rfl) rfl ?_
  refine ah (a7 (vs := [_]) rfl (hP _ _ _ _ _ _ _ _ _ _ _ (by first | assumption | exact Own.rd (by assumption) | exact Rd.lh (by assumption) hB | exact Own.rd (Own.lh (by assumption) hB)) (by first | assumption | exact Own.rd (by assumption) | exact Rd.lh (by assumption) hB | exact Own.rd (Own.lh (by assumption) hB)) (by first | assumption | exact Own.rd (by assumption) | exact Rd.lh (by assumption) hB | exact Own.rd (Own.lh (by assumption) hB)))) rfl ?_
  rintro _ w2 ⟨rfl, k2⟩
  have z_k2 := k2.size
  replace hb1 := hb1.lh k2
  replace hB := hB.trans k2
  refine a4 (dq rfl) rfl ?_
  refine aZ ?_
  refine bH rfl (fun hc1 => ?_) (fun hc1 => ?_)
  · -- yes
    have hd1 := hc1
    try (simp only [Bool.and_eq_true, Bool.or_eq_true, decide_eq_true_eq, Bool.and_eq_false_iff, Bool.or_eq_false_iff, decide_eq_false_iff_not, Bool.not_eq_true', Bool.not_eq_false', Bool.not_eq_true, Bool.not_eq_false, ne_eq, Decidable.not_not, decide_true, decide_false, Bool.true_and, Bool.false_and, Bool.or_false, Bool.false_or, not_true_eq_false, false_or, or_false, true_and, and_true, not_false_eq_true, reduceCtorEq] at hd1)
    refine aY ?_
    refine aX ?_
    refine oga rfl rfl ?_
    refine oga rfl rfl ?_
    refine aZ ?_
    refine bK hfin Tryd.results41 rfl rfl ?_
    have hR : rightB gs ep fr lf ms kd bs = true ∨ rightB gs ep fr lf ms kd bs = false := by cases rightB gs ep fr lf ms kd bs <;> simp
    first
    | (have hr : rightB gs ep fr lf ms kd bs = false := by simpa using hc1
       refine ⟨_, by unfold putE; rw [hr]; rfl, ?_, hB⟩
       unfold putB; rw [hr]; exact a9 _ _ _ _)
    | (have hr : rightB gs ep fr lf ms kd bs = true := by simpa using hc1
       refine ⟨_, by unfold putE; rw [hr]; rfl, ?_, hB⟩
       unfold putB; rw [hr]; exact (by assumption : OwnB _ _ _ _).lo (by omega))
  · -- no
    have hd2 := hc1
    try (simp only [Bool.and_eq_true, Bool.or_eq_true, decide_eq_true_eq, Bool.and_eq_false_iff, Bool.or_eq_false_iff, decide_eq_false_iff_not, Bool.not_eq_true', Bool.not_eq_false', Bool.not_eq_true, Bool.not_eq_false, ne_eq, Decidable.not_not, decide_true, decide_false, Bool.true_and, Bool.false_and, Bool.or_false, Bool.false_or, not_true_eq_false, false_or, or_false, true_and, and_true, not_false_eq_true, reduceCtorEq] at hd2)
    refine a8 ?_
    refine aY ?_
    refine aX ?_
    refine a4 (an (cs' := [_, _, _, _, _, _, _]) fx dd rfl (by assumption) rfl rfl) rfl ?_
    have hlen := ga (by first | assumption | simpa using hd1 | simpa using hc1)
    refine ah (a7 (vs := [_]) rfl (fv _ _ _ _ _ _ _ _ _ _ _ (by first | assumption | exact Own.rd (by assumption) | exact Rd.lh (by assumption) hB | exact Own.rd (Own.lh (by assumption) hB)) (by first | assumption | exact Own.rd (by assumption) | exact Rd.lh (by assumption) hB | exact Own.rd (Own.lh (by assumption) hB)) (by first | assumption | exact Own.rd (by assumption) | exact Rd.lh (by assumption) hB | exact Own.rd (Own.lh (by assumption) hB)) hlen.1 hlen.2.1 hlen.2.2)) rfl ?_
    rintro v1 w3 ⟨o1, k3⟩
    have z_k3 := k3.size
    replace hb1 := hb1.lh k3
    replace hB := hB.trans k3
    refine oga rfl rfl ?_
    refine oga rfl rfl ?_
    refine aZ ?_
    refine bK hfin Tryd.results41 rfl rfl ?_
    have hR : rightB gs ep fr lf ms kd bs = true ∨ rightB gs ep fr lf ms kd bs = false := by cases rightB gs ep fr lf ms kd bs <;> simp
    first
    | (have hr : rightB gs ep fr lf ms kd bs = false := by simpa using hc1
       refine ⟨_, by unfold putE; rw [hr]; rfl, ?_, hB⟩
       unfold putB; rw [hr]; exact a9 _ _ _ _)
    | (have hr : rightB gs ep fr lf ms kd bs = true := by simpa using hc1
       refine ⟨_, by unfold putE; rw [hr]; rfl, ?_, hB⟩
       unfold putB; rw [hr]; exact (by assumption : OwnB _ _ _ _).lo (by omega))
theorem eA (v : Value) (xs : List UInt8) (w : World) (hv : RdB w v xs) (hx : xs.length ≤ 140737488355328) : Rets Tryd.prog 17 [v] w (fun u w' => OwnB w' w.heap.size u xs ∧ Keep [] w w') := by
 have hB : Keep [] w w := Keep.refl _ _
 refine ad Tryd.func17 rfl (by decide) Tryd.ntmps17 rfl (fun fin _ hfin => ?_)
 refine aY (aX (oga rfl rfl (aZ (aY (aX (ah (dA (m := 0) (xs := []) (vs := []) aA bu (by decide) rfl rfl rfl (by first | (simp; done) | (intro v hv; rw [List.mem_singleton] at hv; subst hv; rfl)) (by decide)) rfl ?_))))))
 rintro v1 w1 ⟨o1, nn1, lb1, k1, z1⟩
 have z_k1 := k1.size
 replace hB := hB.trans k1
 replace o1 : Own w1 _ _ 1 v1 0 (bv []) := o1
 refine ogm rfl rfl (ah (bS  aA bu rfl (by first | assumption | exact a9 _ _ _ _) rfl (by first | assumption | exact Own.rd ‹_› | exact Rd.lh ‹_› hB | exact Own.rd (Own.lh ‹_› hB)) (by first | omega | (simp only [bL, List.length_append, Int.toNat_natCast] at *; omega)) (by have := hB.size; omega)) rfl ?_)
 rintro v2 w2 ⟨o2, k2, lb2, nn2⟩
 have z_k2 := k2.size
 replace hB := hB.new k2 (fun x hx => .inl (o1.blk x hx).1)
 refine oga rfl rfl (aZ (af hfin Tryd.results17 rfl ?_))
 exact ⟨by simpa [OwnB] using o2, hB⟩
theorem fZ (n : Int) (w : World) : Rets Tryd.prog 12 [.int .i64 n] w (fun v w' => v = .int .i64 n ∧ w = w') := by
 refine ad Tryd.func12 rfl (by decide) Tryd.ntmps12 rfl (fun fin _ hfin => ?_)
 refine aY (aX (oga rfl rfl (aZ (aY (aX (ogm rfl rfl ?_))))))
 refine oga rfl rfl (aZ (af hfin Tryd.results12 rfl ?_))
 exact ⟨rfl, rfl⟩
theorem jG (g m b : Value) (gs ms bs : List UInt8) (ep fr lf kd : Int) (w : World) (hg : RdB w g gs) (hm : RdB w m ms) (hb : RdB w b bs) (sg : gs.length ≤ 140737488355328) (sm : ms.length ≤ 140737488355328) (sb : bs.length ≤ 140737488355328) : Rets Tryd.prog 16 [.agg [g, .int .i64 ep, .int .i64 fr, .int .i64 lf, m, .int .i64 kd, b].toArray] w (fun v w' => ∃ g' m' b', v = .agg [g', .int .i64 ep, .int .i64 fr, .int .i64 lf, m', .int .i64 kd, b'].toArray ∧ OwnB w' w.heap.size g' gs ∧ OwnB w' w.heap.size m' ms ∧ OwnB w' w.heap.size b' bs ∧ Keep [] w w') := by
  have hB : Keep [] w w := Keep.refl _ _
  refine ad Tryd.func16 rfl (by decide) Tryd.ntmps16 rfl (fun fin _ hfin => ?_)
  refine aY ?_
  refine aX ?_
  refine ah (bz (cs := [_, _, _, _, _, _, _]) rfl rfl) rfl ?_
  rintro _ w1 ⟨b1, rfl, eb1, hb1, k1, z1⟩
  have z_k1 := k1.size
  replace hB := hB.trans k1
  refine ah (cI dd) rfl ?_
  rintro _ w2 ⟨b2, rfl, eb2, hb2, k2, z2⟩
  have z_k2 := k2.size
  replace hb1 := hb1.lh k2
  replace hB := hB.trans k2
  refine aZ ?_
  refine aY ?_
  refine dU 18 mixed [(1, _), (2, _), (0, _)] (fun jj v W => match jj with | 0 => v = .pointer (some ⟨b1, 0 + 0, none⟩) | 1 => v = g | 2 => OwnB W w2.heap.size v (gs) | 3 => v = .pointer (some ⟨b1, 0 + 1, none⟩) | 4 => v = .int .i64 ep | 5 => v = .pointer (some ⟨b1, 0 + 2, none⟩) | 6 => v = .int .i64 fr | 7 => v = .pointer (some ⟨b1, 0 + 3, none⟩) | 8 => v = .int .i64 lf | 9 => v = .pointer (some ⟨b1, 0 + 4, none⟩) | 10 => v = m | 11 => OwnB W w2.heap.size v (ms) | 12 => v = .pointer (some ⟨b1, 0 + 5, none⟩) | 13 => v = .int .i64 kd | 14 => v = .pointer (some ⟨b1, 0 + 6, none⟩) | 15 => v = b | 16 => OwnB W w2.heap.size v (bs) | 17 => ∃ g' m' b', v = .agg [g', .int .i64 ep, .int .i64 fr, .int .i64 lf, m', .int .i64 kd, b'].toArray ∧ OwnB W w2.heap.size  g' gs ∧ OwnB W w2.heap.size  m' ms ∧ OwnB W w2.heap.size  b' bs | _ => True) ⟨rfl, rfl, rfl, trivial⟩ (by decide) (by decide) rfl ?_ ?_ ?_
  · intro jj v W W' h k
    match jj, h with
    | 0, h => exact h
    | 1, h => exact h
    | 2, h => exact h.lh k
    | 3, h => exact h
    | 4, h => exact h
    | 5, h => exact h
    | 6, h => exact h
    | 7, h => exact h
    | 8, h => exact h
    | 9, h => exact h
    | 10, h => exact h
    | 11, h => exact h.lh k
    | 12, h => exact h
    | 13, h => exact h
    | 14, h => exact h
    | 15, h => exact h
    | 16, h => exact h.lh k
    | 17, h => exact (by obtain ⟨g', m', b', h1, h2, h3, h4⟩ := h; exact ⟨g', m', b', h1, h2.lh k, h3.lh k, h4.lh k⟩)
    | _ + 18, _ => trivial
  · refine ⟨?_, ?_, ?_, ?_, ?_, ?_, ?_, ?_, ?_, ?_, ?_, ?_, ?_, ?_, ?_, ?_, ?_, ?_, trivial⟩
    · refine ⟨[], rfl, ?_⟩; rintro W1 hk vs hd
      replace hb1 := hb1.lh hk
      replace hb2 := hb2.lh hk
      replace hB := hB.trans hk
      refine ⟨true, fun a _ => rfl, fun _ => ?_, fun h => by cases h⟩
      refine a6 [(1, _)] ⟨rfl, trivial⟩ ?_
      refine (Gives.does (ay aB rfl az (by decide) rfl)).mono ?_
      rintro v W2 ⟨rfl, rfl⟩
      exact ⟨Keep.refl _ _, rfl⟩
    · refine ⟨[0], rfl, ?_⟩; rintro W1 hk vs hd
      have d0 : (vs 0) = .pointer (some ⟨b1, 0 + 0, none⟩) := hd 0 (by decide)
      replace hb1 := hb1.lh hk
      replace hb2 := hb2.lh hk
      replace hB := hB.trans hk
      refine ⟨true, fun a _ => rfl, fun _ => ?_, fun h => by cases h⟩
      refine a6 [(3, .pointer (some ⟨b1, 0 + 0, none⟩))] ⟨congrArg some d0, trivial⟩ ?_
      refine (Gives.does (ac ba rfl (by assumption) rfl)).mono ?_
      rintro v W2 ⟨rfl, rfl⟩
      exact ⟨Keep.refl _ _, rfl⟩
    · refine ⟨[1], rfl, ?_⟩; rintro W1 hk vs hd
      have d1 : (vs 1) = g := hd 1 (by decide)
      replace hb1 := hb1.lh hk
      replace hb2 := hb2.lh hk
      replace hB := hB.trans hk
      refine ⟨true, fun a _ => rfl, fun _ => ?_, fun h => by cases h⟩
      refine a6 [(4, g)] ⟨congrArg some d1, trivial⟩ ?_
      refine (a7 (vs := [_]) rfl (eA _ _ _ (by first | assumption | exact Own.rd (by assumption) | exact Rd.lh (by assumption) hB | exact Own.rd (Own.lh (by assumption) hB)) (by assumption))).mono ?_
      rintro v W2 ⟨o1, k1⟩; exact ⟨k1, o1.lo hk.size⟩
    · refine ⟨[], rfl, ?_⟩; rintro W1 hk vs hd
      replace hb1 := hb1.lh hk
      replace hb2 := hb2.lh hk
      replace hB := hB.trans hk
      refine ⟨true, fun a _ => rfl, fun _ => ?_, fun h => by cases h⟩
      refine a6 [(1, _)] ⟨rfl, trivial⟩ ?_
      refine (Gives.does (ay aB rfl bJ (by decide) rfl)).mono ?_
      rintro v W2 ⟨rfl, rfl⟩
      exact ⟨Keep.refl _ _, rfl⟩
    · refine ⟨[3], rfl, ?_⟩; rintro W1 hk vs hd
      have d3 : (vs 3) = .pointer (some ⟨b1, 0 + 1, none⟩) := hd 3 (by decide)
      replace hb1 := hb1.lh hk
      replace hb2 := hb2.lh hk
      replace hB := hB.trans hk
      refine ⟨true, fun a _ => rfl, fun _ => ?_, fun h => by cases h⟩
      refine a6 [(6, .pointer (some ⟨b1, 0 + 1, none⟩))] ⟨congrArg some d3, trivial⟩ ?_
      refine (Gives.does (ac bZ rfl (by assumption) rfl)).mono ?_
      rintro v W2 ⟨rfl, rfl⟩
      exact ⟨Keep.refl _ _, rfl⟩
    · refine ⟨[], rfl, ?_⟩; rintro W1 hk vs hd
      replace hb1 := hb1.lh hk
      replace hb2 := hb2.lh hk
      replace hB := hB.trans hk
      refine ⟨true, fun a _ => rfl, fun _ => ?_, fun h => by cases h⟩
      refine a6 [(1, _)] ⟨rfl, trivial⟩ ?_
      refine (Gives.does (ay aB rfl bJ (by decide) rfl)).mono ?_
      rintro v W2 ⟨rfl, rfl⟩
      exact ⟨Keep.refl _ _, rfl⟩
    · refine ⟨[5], rfl, ?_⟩; rintro W1 hk vs hd
      have d5 : (vs 5) = .pointer (some ⟨b1, 0 + 2, none⟩) := hd 5 (by decide)
      replace hb1 := hb1.lh hk
      replace hb2 := hb2.lh hk
      replace hB := hB.trans hk
      refine ⟨true, fun a _ => rfl, fun _ => ?_, fun h => by cases h⟩
      refine a6 [(8, .pointer (some ⟨b1, 0 + 2, none⟩))] ⟨congrArg some d5, trivial⟩ ?_
      refine (Gives.does (ac bZ rfl (by assumption) rfl)).mono ?_
      rintro v W2 ⟨rfl, rfl⟩
      exact ⟨Keep.refl _ _, rfl⟩
    · refine ⟨[], rfl, ?_⟩; rintro W1 hk vs hd
      replace hb1 := hb1.lh hk
      replace hb2 := hb2.lh hk
      replace hB := hB.trans hk
      refine ⟨true, fun a _ => rfl, fun _ => ?_, fun h => by cases h⟩
      refine a6 [(1, _)] ⟨rfl, trivial⟩ ?_
      refine (Gives.does (ay aB rfl bJ (by decide) rfl)).mono ?_
      rintro v W2 ⟨rfl, rfl⟩
      exact ⟨Keep.refl _ _, rfl⟩
    · refine ⟨[7], rfl, ?_⟩; rintro W1 hk vs hd
      have d7 : (vs 7) = .pointer (some ⟨b1, 0 + 3, none⟩) := hd 7 (by decide)
      replace hb1 := hb1.lh hk
      replace hb2 := hb2.lh hk
      replace hB := hB.trans hk
      refine ⟨true, fun a _ => rfl, fun _ => ?_, fun h => by cases h⟩
      refine a6 [(10, .pointer (some ⟨b1, 0 + 3, none⟩))] ⟨congrArg some d7, trivial⟩ ?_
      refine (Gives.does (ac bZ rfl (by assumption) rfl)).mono ?_
      rintro v W2 ⟨rfl, rfl⟩
      exact ⟨Keep.refl _ _, rfl⟩
    · refine ⟨[], rfl, ?_⟩; rintro W1 hk vs hd
      replace hb1 := hb1.lh hk
      replace hb2 := hb2.lh hk
      replace hB := hB.trans hk
      refine ⟨true, fun a _ => rfl, fun _ => ?_, fun h => by cases h⟩
      refine a6 [(1, _)] ⟨rfl, trivial⟩ ?_
      refine (Gives.does (ay aB rfl az (by decide) rfl)).mono ?_
      rintro v W2 ⟨rfl, rfl⟩
      exact ⟨Keep.refl _ _, rfl⟩
    · refine ⟨[9], rfl, ?_⟩; rintro W1 hk vs hd
      have d9 : (vs 9) = .pointer (some ⟨b1, 0 + 4, none⟩) := hd 9 (by decide)
      replace hb1 := hb1.lh hk
      replace hb2 := hb2.lh hk
      replace hB := hB.trans hk
      refine ⟨true, fun a _ => rfl, fun _ => ?_, fun h => by cases h⟩
      refine a6 [(12, .pointer (some ⟨b1, 0 + 4, none⟩))] ⟨congrArg some d9, trivial⟩ ?_
      refine (Gives.does (ac ba rfl (by assumption) rfl)).mono ?_
      rintro v W2 ⟨rfl, rfl⟩
      exact ⟨Keep.refl _ _, rfl⟩
    · refine ⟨[10], rfl, ?_⟩; rintro W1 hk vs hd
      have d10 : (vs 10) = m := hd 10 (by decide)
      replace hb1 := hb1.lh hk
      replace hb2 := hb2.lh hk
      replace hB := hB.trans hk
      refine ⟨true, fun a _ => rfl, fun _ => ?_, fun h => by cases h⟩
      refine a6 [(13, m)] ⟨congrArg some d10, trivial⟩ ?_
      refine (a7 (vs := [_]) rfl (eA _ _ _ (by first | assumption | exact Own.rd (by assumption) | exact Rd.lh (by assumption) hB | exact Own.rd (Own.lh (by assumption) hB)) (by assumption))).mono ?_
      rintro v W2 ⟨o1, k1⟩; exact ⟨k1, o1.lo hk.size⟩
    · refine ⟨[], rfl, ?_⟩; rintro W1 hk vs hd
      replace hb1 := hb1.lh hk
      replace hb2 := hb2.lh hk
      replace hB := hB.trans hk
      refine ⟨true, fun a _ => rfl, fun _ => ?_, fun h => by cases h⟩
      refine a6 [(1, _)] ⟨rfl, trivial⟩ ?_
      refine (Gives.does (ay aB rfl bJ (by decide) rfl)).mono ?_
      rintro v W2 ⟨rfl, rfl⟩
      exact ⟨Keep.refl _ _, rfl⟩
    · refine ⟨[12], rfl, ?_⟩; rintro W1 hk vs hd
      have d12 : (vs 12) = .pointer (some ⟨b1, 0 + 5, none⟩) := hd 12 (by decide)
      replace hb1 := hb1.lh hk
      replace hb2 := hb2.lh hk
      replace hB := hB.trans hk
      refine ⟨true, fun a _ => rfl, fun _ => ?_, fun h => by cases h⟩
      refine a6 [(15, .pointer (some ⟨b1, 0 + 5, none⟩))] ⟨congrArg some d12, trivial⟩ ?_
      refine (Gives.does (ac bZ rfl (by assumption) rfl)).mono ?_
      rintro v W2 ⟨rfl, rfl⟩
      exact ⟨Keep.refl _ _, rfl⟩
    · refine ⟨[], rfl, ?_⟩; rintro W1 hk vs hd
      replace hb1 := hb1.lh hk
      replace hb2 := hb2.lh hk
      replace hB := hB.trans hk
      refine ⟨true, fun a _ => rfl, fun _ => ?_, fun h => by cases h⟩
      refine a6 [(1, _)] ⟨rfl, trivial⟩ ?_
      refine (Gives.does (ay aB rfl az (by decide) rfl)).mono ?_
      rintro v W2 ⟨rfl, rfl⟩
      exact ⟨Keep.refl _ _, rfl⟩
    · refine ⟨[14], rfl, ?_⟩; rintro W1 hk vs hd
      have d14 : (vs 14) = .pointer (some ⟨b1, 0 + 6, none⟩) := hd 14 (by decide)
      replace hb1 := hb1.lh hk
      replace hb2 := hb2.lh hk
      replace hB := hB.trans hk
      refine ⟨true, fun a _ => rfl, fun _ => ?_, fun h => by cases h⟩
      refine a6 [(17, .pointer (some ⟨b1, 0 + 6, none⟩))] ⟨congrArg some d14, trivial⟩ ?_
      refine (Gives.does (ac ba rfl (by assumption) rfl)).mono ?_
      rintro v W2 ⟨rfl, rfl⟩
      exact ⟨Keep.refl _ _, rfl⟩
    · refine ⟨[15], rfl, ?_⟩; rintro W1 hk vs hd
      have d15 : (vs 15) = b := hd 15 (by decide)
      replace hb1 := hb1.lh hk
      replace hb2 := hb2.lh hk
      replace hB := hB.trans hk
      refine ⟨true, fun a _ => rfl, fun _ => ?_, fun h => by cases h⟩
      refine a6 [(18, b)] ⟨congrArg some d15, trivial⟩ ?_
      refine (a7 (vs := [_]) rfl (eA _ _ _ (by first | assumption | exact Own.rd (by assumption) | exact Rd.lh (by assumption) hB | exact Own.rd (Own.lh (by assumption) hB)) (by assumption))).mono ?_
      rintro v W2 ⟨o1, k1⟩; exact ⟨k1, o1.lo hk.size⟩
    · refine ⟨[2, 4, 6, 8, 11, 13, 16], rfl, ?_⟩; rintro W1 hk vs hd
      have d2 : OwnB W1 w2.heap.size (vs 2) (gs) := hd 2 (by decide)
      have d4 : (vs 4) = .int .i64 ep := hd 4 (by decide)
      have d6 : (vs 6) = .int .i64 fr := hd 6 (by decide)
      have d8 : (vs 8) = .int .i64 lf := hd 8 (by decide)
      have d11 : OwnB W1 w2.heap.size (vs 11) (ms) := hd 11 (by decide)
      have d13 : (vs 13) = .int .i64 kd := hd 13 (by decide)
      have d16 : OwnB W1 w2.heap.size (vs 16) (bs) := hd 16 (by decide)
      replace hb1 := hb1.lh hk
      replace hb2 := hb2.lh hk
      replace hB := hB.trans hk
      refine ⟨true, fun a _ => rfl, fun _ => ?_, fun h => by cases h⟩
      refine a6 [(5, vs 2), (7, .int .i64 ep), (9, .int .i64 fr), (11, .int .i64 lf), (14, vs 11), (16, .int .i64 kd), (19, vs 16)] ⟨rfl, congrArg some d4, congrArg some d6, congrArg some d8, rfl, congrArg some d13, rfl, trivial⟩ ?_
      refine (Gives.does (cL (idx := [0, 1, 2, 3, 4, 5, 6]) (xs := [.tmp 5, .tmp 7, .tmp 9, .tmp 11, .tmp 14, .tmp 16, .tmp 19]) (vs := [_, _, _, _, _, _, _]) (css := [[_], [_], [_], [_], [_], [_], [_]]) (out := [_, _, _, _, _, _, _]) pl28 dd rfl rfl ⟨Rd.cells (by first | assumption | exact Own.rd (by assumption) | exact Rd.lh (by assumption) hB | exact Own.rd (Own.lh (by assumption) hB)), rfl, rfl, rfl, Rd.cells (by first | assumption | exact Own.rd (by assumption) | exact Rd.lh (by assumption) hB | exact Own.rd (Own.lh (by assumption) hB)), rfl, Rd.cells (by first | assumption | exact Own.rd (by assumption) | exact Rd.lh (by assumption) hB | exact Own.rd (Own.lh (by assumption) hB)), trivial⟩ rfl rfl)).mono ?_
      rintro v W2 ⟨rfl, rfl⟩
      exact ⟨Keep.refl _ _, vs 2, vs 11, vs 16, rfl, d2, d11, d16⟩
  rintro w3 k3 vs hv
  have z_k3 := k3.size
  replace hb1 := hb1.lh k3
  replace hb2 := hb2.lh k3
  replace hB := hB.trans k3
  have e20 : ∃ g' m' b', (vs 17) = .agg [g', .int .i64 ep, .int .i64 fr, .int .i64 lf, m', .int .i64 kd, b'].toArray ∧ OwnB w3 w2.heap.size  g' gs ∧ OwnB w3 w2.heap.size  m' ms ∧ OwnB w3 w2.heap.size  b' bs := hv 17 (by decide) rfl
  refine dR [(20, vs 17), (1, _), (2, _), (0, _)] ⟨rfl, rfl, rfl, rfl, trivial⟩ ?_
  obtain ⟨g', m', b', h17, og, om, ob⟩ := e20
  rw [h17]
  have u_og := og.blk
  have u_om := om.blk
  have u_ob := ob.blk
  refine am (bU dd rfl rfl rfl (by simp only [List.forall_mem_cons]; refine ⟨(by first | rfl | exact Rd.one (by first | assumption | exact Own.rd (by assumption) | exact Rd.lh (by assumption) hB | exact Own.rd (Own.lh (by assumption) hB))), (by first | rfl | exact Rd.one (by first | assumption | exact Own.rd (by assumption) | exact Rd.lh (by assumption) hB | exact Own.rd (Own.lh (by assumption) hB))), (by first | rfl | exact Rd.one (by first | assumption | exact Own.rd (by assumption) | exact Rd.lh (by assumption) hB | exact Own.rd (Own.lh (by assumption) hB))), (by first | rfl | exact Rd.one (by first | assumption | exact Own.rd (by assumption) | exact Rd.lh (by assumption) hB | exact Own.rd (Own.lh (by assumption) hB))), (by first | rfl | exact Rd.one (by first | assumption | exact Own.rd (by assumption) | exact Rd.lh (by assumption) hB | exact Own.rd (Own.lh (by assumption) hB))), (by first | rfl | exact Rd.one (by first | assumption | exact Own.rd (by assumption) | exact Rd.lh (by assumption) hB | exact Own.rd (Own.lh (by assumption) hB))), (by first | rfl | exact Rd.one (by first | assumption | exact Own.rd (by assumption) | exact Rd.lh (by assumption) hB | exact Own.rd (Own.lh (by assumption) hB))), fun v hv => by cases hv⟩) hb2 rfl) ?_
  rintro _ w4 ⟨hb3, k4, z3⟩
  have z_k4 := k4.size
  replace og := og.keep k4 (fun x hx hm => by have h1 := u_og x hx; have h2 := List.mem_singleton.1 hm; omega)
  replace om := om.keep k4 (fun x hx hm => by have h1 := u_om x hx; have h2 := List.mem_singleton.1 hm; omega)
  replace ob := ob.keep k4 (fun x hx hm => by have h1 := u_ob x hx; have h2 := List.mem_singleton.1 hm; omega)
  replace hB := hB.new k4 (fun x hx => .inl (by have h2 := List.mem_singleton.1 hx; omega))
  refine aZ ?_
  refine fW hfin Tryd.results16 rfl (ao fx dd hb3 rfl)  ?_
  exact ⟨g', m', b', rfl, og.lo (by omega), om.lo (by omega), ob.lo (by omega), hB⟩
def sameB (gs : List UInt8) (ep fr lf : Int) (ms : List UInt8) (kd : Int) (bs : List UInt8) (gs2 : List UInt8) (ep2 fr2 lf2 : Int) (ms2 : List UInt8) (kd2 : Int) (bs2 : List UInt8) : Bool :=
 decide (gs = gs2) && decide (ep = ep2) && decide (fr = fr2) && decide (lf = lf2) && decide (ms = ms2) && decide (kd = kd2) && decide (bs = bs2)
theorem fo (g m b : Value) (gs ms bs : List UInt8) (ep fr lf kd : Int) (w : World) (hg : RdB w g gs) (hm : RdB w m ms) (hb : RdB w b bs) (g2 m2 b2 : Value) (gs2 ms2 bs2 : List UInt8) (ep2 fr2 lf2 kd2 : Int) (hg2 : RdB w g2 gs2) (hm2 : RdB w m2 ms2) (hb2 : RdB w b2 bs2) : Rets Tryd.prog 40 [.agg [g, .int .i64 ep, .int .i64 fr, .int .i64 lf, m, .int .i64 kd, b].toArray, .agg [g2, .int .i64 ep2, .int .i64 fr2, .int .i64 lf2, m2, .int .i64 kd2, b2].toArray] w (fun v w' => v = .bool (sameB gs ep fr lf ms kd bs gs2 ep2 fr2 lf2 ms2 kd2 bs2) ∧ Keep [] w w') := by
 have hB : Keep [] w w := Keep.refl _ _
 refine ad Tryd.func40 rfl (by decide) Tryd.ntmps40 rfl (fun fin _ hfin => ?_)
 refine aY (aX (ah (bz (cs := [_, _, _, _, _, _, _]) rfl rfl) rfl ?_))
 rintro _ w1 ⟨b1, rfl, eb1, hb1, k1, z1⟩
 have z_k1 := k1.size
 replace hB := hB.trans k1
 refine ah (bz (cs := [_, _, _, _, _, _, _]) rfl rfl) rfl ?_
 rintro _ w2 ⟨b2, rfl, eb2, hb2, k2, z2⟩
 have z_k2 := k2.size
 replace hb1 := hb1.lh k2
 replace hB := hB.trans k2
 refine oga rfl rfl (aZ (aY (aX (a4 (ay aD rfl az (by decide) rfl) rfl ?_))))
 refine a4 (ac ba rfl ‹_› rfl) rfl ?_
 refine a4 (dg aA aI aO rfl (by first | assumption | exact Own.rd ‹_› | exact Rd.lh ‹_› hB | exact Own.rd (Own.lh ‹_› hB))) rfl ?_
 refine a4 (ay aB rfl az (by decide) rfl) rfl ?_
 refine a4 (ac ba rfl ‹_› rfl) rfl ?_
 refine a4 (dg aA aI aO rfl (by first | assumption | exact Own.rd ‹_› | exact Rd.lh ‹_› hB | exact Own.rd (Own.lh ‹_› hB))) rfl ?_
 refine a4 (f9 rfl rfl) rfl ?_
 refine ogm rfl rfl (al 12 true rfl (fun c1 hgc1 => ?_))
 refine a5 [(2, _)] (aa rfl rfl rfl hgc1) ⟨au rfl, trivial⟩ (fun hw1 => ay aD rfl bJ (by decide) rfl) rfl ?_
 refine a5 [(13, _)] (aa rfl rfl rfl hgc1) ⟨ae rfl, trivial⟩ (fun hw2 => ac bZ rfl ‹_› rfl) rfl ?_
 refine a5 [(3, _)] (aa rfl rfl rfl hgc1) ⟨au rfl, trivial⟩ (fun hw3 => ay aB rfl bJ (by decide) rfl) rfl ?_
 refine a5 [(15, _)] (aa rfl rfl rfl hgc1) ⟨ae rfl, trivial⟩ (fun hw4 => ac bZ rfl ‹_› rfl) rfl ?_
 refine a5 [(14, _), (16, _)] (aa rfl rfl rfl hgc1) ⟨ae rfl, ae rfl, trivial⟩ (fun hw5 => bF rfl rfl) rfl ?_
 refine a4 (ax rfl rfl hgc1) rfl ?_
 refine ogm rfl rfl (al 19 true rfl (fun c2 hgc2 => ?_))
 refine a5 [(2, _)] (aa rfl rfl rfl hgc2) ⟨au rfl, trivial⟩ (fun hw6 => ay aD rfl bJ (by decide) rfl) rfl ?_
 refine a5 [(20, _)] (aa rfl rfl rfl hgc2) ⟨ae rfl, trivial⟩ (fun hw7 => ac bZ rfl ‹_› rfl) rfl ?_
 refine a5 [(3, _)] (aa rfl rfl rfl hgc2) ⟨au rfl, trivial⟩ (fun hw8 => ay aB rfl bJ (by decide) rfl) rfl ?_
 refine a5 [(22, _)] (aa rfl rfl rfl hgc2) ⟨ae rfl, trivial⟩ (fun hw9 => ac bZ rfl ‹_› rfl) rfl ?_
 refine a5 [(21, _), (23, _)] (aa rfl rfl rfl hgc2) ⟨ae rfl, ae rfl, trivial⟩ (fun hw10 => bF rfl rfl) rfl ?_
 refine a4 (ax rfl rfl hgc2) rfl ?_
 refine ogm rfl rfl (al 26 true rfl (fun c3 hgc3 => ?_))
 refine a5 [(2, _)] (aa rfl rfl rfl hgc3) ⟨au rfl, trivial⟩ (fun hw11 => ay aD rfl bJ (by decide) rfl) rfl ?_
 refine a5 [(27, _)] (aa rfl rfl rfl hgc3) ⟨ae rfl, trivial⟩ (fun hw12 => ac bZ rfl ‹_› rfl) rfl ?_
 refine a5 [(3, _)] (aa rfl rfl rfl hgc3) ⟨au rfl, trivial⟩ (fun hw13 => ay aB rfl bJ (by decide) rfl) rfl ?_
 refine a5 [(29, _)] (aa rfl rfl rfl hgc3) ⟨ae rfl, trivial⟩ (fun hw14 => ac bZ rfl ‹_› rfl) rfl ?_
 refine a5 [(28, _), (30, _)] (aa rfl rfl rfl hgc3) ⟨ae rfl, ae rfl, trivial⟩ (fun hw15 => bF rfl rfl) rfl ?_
 refine a4 (ax rfl rfl hgc3) rfl ?_
 refine ogm rfl rfl (al 33 true rfl (fun c4 hgc4 => ?_))
 refine a5 [(2, _)] (aa rfl rfl rfl hgc4) ⟨au rfl, trivial⟩ (fun hw16 => ay aD rfl az (by decide) rfl) rfl ?_
 refine a5 [(34, _)] (aa rfl rfl rfl hgc4) ⟨ae rfl, trivial⟩ (fun hw17 => ac ba rfl ‹_› rfl) rfl ?_
 refine a5 [(35, _)] (aa rfl rfl rfl hgc4) ⟨ae rfl, trivial⟩ (fun hw18 => dg aA aI aO rfl (by first | assumption | exact Own.rd ‹_› | exact Rd.lh ‹_› hB | exact Own.rd (Own.lh ‹_› hB))) rfl ?_
 refine a5 [(3, _)] (aa rfl rfl rfl hgc4) ⟨au rfl, trivial⟩ (fun hw19 => ay aB rfl az (by decide) rfl) rfl ?_
 refine a5 [(37, _)] (aa rfl rfl rfl hgc4) ⟨ae rfl, trivial⟩ (fun hw20 => ac ba rfl ‹_› rfl) rfl ?_
 refine a5 [(38, _)] (aa rfl rfl rfl hgc4) ⟨ae rfl, trivial⟩ (fun hw21 => dg aA aI aO rfl (by first | assumption | exact Own.rd ‹_› | exact Rd.lh ‹_› hB | exact Own.rd (Own.lh ‹_› hB))) rfl ?_
 refine a5 [(36, _), (39, _)] (aa rfl rfl rfl hgc4) ⟨ae rfl, ae rfl, trivial⟩ (fun hw22 => f9 rfl rfl) rfl ?_
 refine a4 (ax rfl rfl hgc4) rfl ?_
 refine ogm rfl rfl (al 42 true rfl (fun c5 hgc5 => ?_))
 refine a5 [(2, _)] (aa rfl rfl rfl hgc5) ⟨au rfl, trivial⟩ (fun hw23 => ay aD rfl bJ (by decide) rfl) rfl ?_
 refine a5 [(43, _)] (aa rfl rfl rfl hgc5) ⟨ae rfl, trivial⟩ (fun hw24 => ac bZ rfl ‹_› rfl) rfl ?_
 refine a5 [(3, _)] (aa rfl rfl rfl hgc5) ⟨au rfl, trivial⟩ (fun hw25 => ay aB rfl bJ (by decide) rfl) rfl ?_
 refine a5 [(45, _)] (aa rfl rfl rfl hgc5) ⟨ae rfl, trivial⟩ (fun hw26 => ac bZ rfl ‹_› rfl) rfl ?_
 refine a5 [(44, _), (46, _)] (aa rfl rfl rfl hgc5) ⟨ae rfl, ae rfl, trivial⟩ (fun hw27 => bF rfl rfl) rfl ?_
 refine a4 (ax rfl rfl hgc5) rfl ?_
 refine ogm rfl rfl (al 49 true rfl (fun c6 hgc6 => ?_))
 refine a5 [(2, _)] (aa rfl rfl rfl hgc6) ⟨au rfl, trivial⟩ (fun hw28 => ay aD rfl az (by decide) rfl) rfl ?_
 refine a5 [(50, _)] (aa rfl rfl rfl hgc6) ⟨ae rfl, trivial⟩ (fun hw29 => ac ba rfl ‹_› rfl) rfl ?_
 refine a5 [(51, _)] (aa rfl rfl rfl hgc6) ⟨ae rfl, trivial⟩ (fun hw30 => dg aA aI aO rfl (by first | assumption | exact Own.rd ‹_› | exact Rd.lh ‹_› hB | exact Own.rd (Own.lh ‹_› hB))) rfl ?_
 refine a5 [(3, _)] (aa rfl rfl rfl hgc6) ⟨au rfl, trivial⟩ (fun hw31 => ay aB rfl az (by decide) rfl) rfl ?_
 refine a5 [(53, _)] (aa rfl rfl rfl hgc6) ⟨ae rfl, trivial⟩ (fun hw32 => ac ba rfl ‹_› rfl) rfl ?_
 refine a5 [(54, _)] (aa rfl rfl rfl hgc6) ⟨ae rfl, trivial⟩ (fun hw33 => dg aA aI aO rfl (by first | assumption | exact Own.rd ‹_› | exact Rd.lh ‹_› hB | exact Own.rd (Own.lh ‹_› hB))) rfl ?_
 refine a5 [(52, _), (55, _)] (aa rfl rfl rfl hgc6) ⟨ae rfl, ae rfl, trivial⟩ (fun hw34 => f9 rfl rfl) rfl ?_
 refine a4 (ax rfl rfl hgc6) rfl ?_
 refine oga rfl rfl (aZ (af hfin Tryd.results40 rfl ?_))
 exact ⟨rfl, hB⟩
end Go.Proofs.YtjfmmoonpdifcaaDoor.W
namespace Go.Eng
open Go Go.IntWalk
def ivF (k : IntKind) (f : Nat → Int) : Nat → Nat → List Value
 | _, 0 => []
 | i, n + 1 => .int k (f i) :: ivF k f (i + 1) n
abbrev iv (k : IntKind) (n : Nat) (f : Nat → Int) : List Value := ivF k f 0 n
def upd (f : Nat → Int) (i : Nat) (v : Int) : Nat → Int := fun j => bif Nat.beq j i then v else f j
theorem ia (f : Nat → Int) (i : Nat) (v : Int) : upd f i v i = v := by simp [upd]
theorem fh (f : Nat → Int) {i j : Nat} (v : Int) (h : j ≠ i) : upd f i v j = f j := by
 unfold upd
 have : Nat.beq j i = false := by
   cases hb : Nat.beq j i with
   | false => rfl
   | true => exact absurd (Nat.eq_of_beq_eq_true hb) h
 rw [this]; rfl
@[simp] theorem fN (k : IntKind) (f : Nat → Int) : ∀ (n i : Nat), (ivF k f i n).length = n
 | 0, _ => rfl
 | n + 1, i => by simp [ivF, fN k f n]
theorem jo (k : IntKind) (f : Nat → Int) : ∀ (n i j : Nat), j < n → (ivF k f i n)[j]? = some (.int k (f (i + j)))
 | 0, _, _, h => by omega
 | n + 1, i, 0, _ => rfl
 | n + 1, i, j + 1, h => by
   simp only [ivF, List.getElem?_cons_succ]
   rw [jo k f n (i + 1) j (by omega), Nat.add_assoc, Nat.add_comm 1 j]
theorem cq {k : IntKind} {f : Nat → Int} {n j : Nat} (h : j < n) : (iv k n f)[j]? = some (.int k (f j)) := by rw [iv, jo k f n 0 j h, Nat.zero_add]
theorem iC {k : IntKind} {f g : Nat → Int} : ∀ {n i : Nat}, (∀ j, i ≤ j → j < i + n → f j = g j) → ivF k f i n = ivF k g i n
 | 0, _, _ => rfl
 | n + 1, i, h => by simp only [ivF]; rw [h i (Nat.le_refl _) (by omega), iC (n := n) (i := i + 1) (fun j h1 h2 => h j (by omega) (by omega))]
theorem jm (k : IntKind) (f : Nat → Int) (v : Int) : ∀ (n i j : Nat), (ivF k f i n).set j (.int k v) = ivF k (upd f (i + j) v) i n
 | 0, _, _ => rfl
 | n + 1, i, 0 => by
   simp only [ivF, List.set_cons_zero, Nat.add_zero]
   rw [ia]
   exact congrArg _ (iC (g := upd f i v) (fun j h1 h2 => (fh f v (by omega)).symm))
 | n + 1, i, j + 1 => by
   simp only [ivF, List.set_cons_succ]
   rw [fh f v (by omega), jm k f v n (i + 1) j, Nat.add_assoc, Nat.add_comm 1 j]
theorem iv_set {k : IntKind} {f : Nat → Int} {n j : Nat} {v : Int} : (iv k n f).set j (.int k v) = iv k n (upd f j v) := by rw [iv, jm, Nat.zero_add]
theorem jn (k : IntKind) (x : Int) : ∀ (n i : Nat), ivF k (fun _ => x) i n = List.replicate n (.int k x)
  | 0, _ => rfl
  | n + 1, i => by rw [ivF, jn k x n, List.replicate_succ]
def In (x lo hi : Int) : Prop := lo ≤ x ∧ x ≤ hi
def Le (a b : Int) : Prop := a ≤ b
instance (a b : Int) : Decidable (Le a b) := inferInstanceAs (Decidable (a ≤ b))
instance (x lo hi : Int) : Decidable (In x lo hi) := inferInstanceAs (Decidable (lo ≤ x ∧ x ≤ hi))
def Eqn (z e : Int) : Prop := z = e
def chk (lo hi a b : Int) : Bool := decide (lo ≤ a) && decide (b ≤ hi)
theorem chk_le {lo hi a b : Int} (h : chk lo hi a b = true) : lo ≤ a ∧ b ≤ hi := by simpa [chk] using h
theorem In.wk {x a b lo hi : Int} (h : In x a b) (hc : chk lo hi a b = true) : In x lo hi := by
 have := chk_le hc; unfold In at *; omega
def kmod : IntKind → Int
 | .i8 | .u8 => 256 | .i16 | .u16 => 65536 | .i32 | .u32 => 4294967296 | .i64 | .u64 => 18446744073709551616
def uns : IntKind → Bool
 | .u8 | .u16 | .u32 | .u64 => true
 | _ => false
theorem fS {k : IntKind} (hk : uns k = true) (x : Int) : k.wrap x = x % kmod k := by
 cases k <;> first | (exact absurd hk (by decide)) | (simp [IntKind.wrap, IntKind.bits, IntKind.signed, kmod])
theorem lP (x : Int) {m : Int} (hm : 0 < m) : In (x % m) 0 (m - 1) := by
 have := Int.emod_nonneg x (Int.ne_of_gt hm); have := Int.emod_lt_of_pos x hm
 unfold In; omega
def pw2 (s : Nat) : Int → Bool
 | .ofNat m => Nat.beq m (2 ^ s)
 | .negSucc _ => false
theorem pw2_eq {s : Nat} {m : Int} (h : pw2 s m = true) : m = 2 ^ s := by
 cases m with
 | ofNat m =>
   have := Nat.eq_of_beq_eq_true h
   subst this
   simp
 | negSucc m => cases h
section
variable {P : Program} {n : NN} {f : Fr} {w : World} {ty : TypeId} {fin : Exit → Act → World → Prop} {k : List KI} {ops : Array Oper} {l : List Oper}
theorem ow_gx {op : Op} {d : Nat} {pos : String} {aft : Array Edge} {kd : IntKind} {e e' lo hi : Int} (hr : Gives P n f w op ty (.int kd e) w) (he : e = e') (hb : In e' lo hi) (hd : Nat.blt d n = true)
   (h : ∀ z, Eqn z e' → In z lo hi → OW P fin n k ops l ((d, .int kd z) :: f) w) : OW P fin n k ops (⟨some d, op, ty, pos, aft, none⟩ :: l) f w := by
 subst he; exact a4 hr hd (h _ rfl hb)
theorem gm {k k' : IntKind} {t u : TypeId} {x y : Operand} {i j m : Int} (hx : f.ev x = some (.int k i)) (hy : f.ev y = some (.int k' j)) (h : 0 ≤ j ∧ j ≤ k.bits) (hm : pw2 j.toNat m = true) :
   Gives P n f w (.binOp .shr t x y u) ty (.int k (i / m)) w := by have := pw2_eq hm; subst this; exact ez hx hy h
theorem g_ixa {x y : Operand} {t e : TypeId} {m : Nat} {zs : List Value} {s b : Nat} {blk o : Nat} {kd : IntKind} {i : Int} (ht : P.underlying t = some (.array m e)) (he : Ty P e zs s b)
   (hx : f.ev x = some (.pointer (some ⟨blk, o, none⟩))) (hy : f.ev y = some (.int kd i)) (h : 0 ≤ i ∧ i < m) :
   Gives P n f w (.indexAddr t x y) ty (.pointer (some ⟨blk, o + i.toNat * s, none⟩)) w := by
 intro a ha dst pos aft g
 simp [execOp, ha.ev hx, ha.ev hy, Instr.indexAt, asIntOf, run_underlying ht, he.sizeOf, h.1, h.2, Instr.sureAddr, Addr.add_lit]
theorem f8 {x y : Operand} {t e : TypeId} {m : Nat} {zs cs : List Value} {b : Nat} {kd : IntKind} {i : Int} {u : Value} (ht : P.underlying t = some (.array m e)) (he : Ty P e zs 1 b) (hsc : scB P e = true)
   (hx : f.ev x = some (.agg cs.toArray)) (hy : f.ev y = some (.int kd i)) (h : 0 ≤ i ∧ i < m) (hc : cs[i.toNat]? = some u) :
   Gives P n f w (.index t x y) ty u w := by
 intro a ha dst pos aft g
 simp [execOp, ha.ev hx, ha.ev hy, Instr.index, asIntOf, run_underlying ht, he.sizeOf, h.1, h.2, part, hO hsc, hc]
end
end Go.Eng
namespace Go.Eng
open Go
theorem iv4 {w : World} {b : Nat} {T : TypeId} {k : IntKind} {g : Nat → Int} (h : Bk w b T (iv k 4 g)) : Bk w b T [.int k (g 0), .int k (g 1), .int k (g 2), .int k (g 3)] := h
theorem iv5 {w : World} {b : Nat} {T : TypeId} {k : IntKind} {g : Nat → Int} (h : Bk w b T (iv k 5 g)) : Bk w b T [.int k (g 0), .int k (g 1), .int k (g 2), .int k (g 3), .int k (g 4)] := h
theorem iv8 {w : World} {b : Nat} {T : TypeId} {k : IntKind} {g : Nat → Int} (h : Bk w b T (iv k 8 g)) : Bk w b T [.int k (g 0), .int k (g 1), .int k (g 2), .int k (g 3), .int k (g 4), .int k (g 5), .int k (g 6), .int k (g 7)] := h
theorem iv20 {w : World} {b : Nat} {T : TypeId} {k : IntKind} {g : Nat → Int} (h : Bk w b T (iv k 20 g)) : Bk w b T [.int k (g 0), .int k (g 1), .int k (g 2), .int k (g 3), .int k (g 4), .int k (g 5), .int k (g 6), .int k (g 7), .int k (g 8), .int k (g 9), .int k (g 10), .int k (g 11), .int k (g 12), .int k (g 13), .int k (g 14), .int k (g 15), .int k (g 16), .int k (g 17), .int k (g 18), .int k (g 19)] := h
end Go.Eng
namespace Go.Eng
open Go Go.IntWalk
section
variable {P : Program} {n : NN} {f : Fr} {w : World} {ty : TypeId} {fin : Exit → Act → World → Prop} {k : List KI} {ops : Array Oper} {tl l : List Oper}
def SW (P : Program) (fin : Exit → Act → World → Prop) (n : NN) (k : List KI) (ops : Array Oper) (tl : List Oper) (l : List Oper) (f : Fr) (w : World) : Prop :=
 ∀ a, Kn n f a → wpStill P ops w (fun a' => wpList P ops (KQ P fin k) tl a' w) l a
theorem kp {id : Nat} {l : List Oper} (m : Nat) (hm : P.follows .mixedOrders = true) (hB : Region.lexTailB .any l.toArray m = true)
   (h : ∀ w1, Keep [] w w1 → SW P fin n k l.toArray (l.drop m) (l.take m) f w1) : TW P fin n (.c (.region id l.toArray true) :: k) f w :=
 fun a ha => wp_region_still_tail m hm hB (h _ (bp w) a ha)
theorem fE {id : Nat} {l : List Oper} (hm : P.follows .mixedOrders = true) (hB : Region.lexB .any l.toArray = true)
   (h : ∀ w1, Keep [] w w1 → SW P fin n k l.toArray [] l f w1) : TW P fin n (.c (.region id l.toArray true) :: k) f w :=
 fun a ha => wp_region_still_lit hm hB (h _ (bp w) a ha)
theorem gZ (h : OW P fin n k ops tl f w) : SW P fin n k ops tl [] f w := fun a ha => wpStill_nil (h a ha)
theorem dI {op : Op} {d : Nat} {pos : String} {aft : Array Edge} {v : Value} (hr : Gives P n f w op ty v w) (hd : Nat.blt d n = true)
   (h : SW P fin n k ops tl l ((d, v) :: f) w) : SW P fin n k ops tl (⟨some d, op, ty, pos, aft, none⟩ :: l) f w := by
 intro a ha
 refine wpStill_step fun K hK => ?_
 rw [if_pos (by simp [Region.wanted])]
 unfold Oper.still
 rw [hr a ha, Oper.stillUpon_value]
 exact hK _ (h _ (ha.put (bD hd) v))
theorem sw_grp (d : Nat) (want : Bool) {b : Bool} (_hf : f.get d = some (.bool b)) (h : ∀ c, c = (b == want) → SW P fin n k ops tl l f w) : SW P fin n k ops tl l f w := h _ rfl
theorem en (f1 : Fr) {op : Op} {d : Nat} {pos : String} {aft : Array Edge} {j : Nat} {want c : Bool} {v : Value} (hG : Grd n ops f j want c) (hs : UndF c f1 f) (hr : c = true → Gives P n f1 w op ty v w) (hd : Nat.blt d n = true)
   (h : SW P fin n k ops tl l ((d, gv c v) :: f) w) : SW P fin n k ops tl (⟨some d, op, ty, pos, aft, some (j, want)⟩ :: l) f w := by
 intro a ha
 have hg := hG a ha
 refine wpStill_step fun K hK => ?_
 have hwt : Region.wanted ⟨some d, op, ty, pos, aft, some (j, want)⟩ (yielded ops a.tmps) = c := hg
 rw [hwt]
 have h' := h _ (ha.put (bD hd) (gv c v))
 cases hc : c with
 | true =>
   rw [if_pos rfl]
   unfold Oper.still
   rw [hr hc a (ha.undF hc hs), Oper.stillUpon_value]
   rw [gP hc] at h'
   exact hK _ h'
 | false =>
   rw [if_neg (by simp)]
   rw [gk hc] at h'
   exact hK _ h'
end
end Go.Eng
namespace Go.Eng
open Go Go.IntWalk
section
variable {P : Program} {n : NN}
def PStep (P : Program) (n : NN) (ops : Array Oper) (o : Oper) (f1 : Fr) (w : World) (R : Value → World → Prop) : Prop :=
 ∀ a, Kn n f1 a → ∀ (K : Act → World → Prop) (Q : Exit → Act → World → Prop), (∀ v w', R v w' → K (a.put o.dst v) w') →
   (Region.wanted o (yielded ops a.tmps) = true → Oper.wp P o a w K Q) ∧ (Region.wanted o (yielded ops a.tmps) = false → K (a.put o.dst undef) w)
def depB (l : List Oper) (i j : Nat) : Bool := match l[i]? with
 | none => false
 | some o => o.after.toList.any fun e => e.on == j && Region.binds .any e
def slotsOk (l : List Oper) (p i : Nat) (f1 : Fr) : Bool :=
 f1.all fun q => (List.range p).all (fun j => !hasDst l j || dstOf l j != q.1) || (List.range p).any (fun j => depB l i j && (hasDst l j && dstOf l j == q.1))
def eager (l : List Oper) (cb : Nat → Bool) : List Nat → Bool
 | [] => true
 | c :: r => !r.contains c && (!cb c || r.all fun i => (c :: r).any fun j => depB l i j) && eager l cb r
def planOk (n : Nat) (l : List Oper) (p : Nat) (plan : List Nat) (cb : Nat → Bool) : Bool :=
 drawOk n l && tailOk l p && plan.all (fun i => Nat.blt i p && hasDst l i) && (List.range p).all (fun i => plan.contains i) && eager l cb plan
def PW (P : Program) (n : NN) (l : List Oper) (p : Nat) (T : List Nat) (cb : Nat → Bool) (Fin : Fr → World → Prop) : List Nat → Fr → World → Prop
 | [], f, w => Fin f w
 | i :: r, f, w => ∃ o f1, l[i]? = some o ∧ Fr.sub f1 f ∧ slotsOk l p i f1 = true ∧
   ((cb i = true ∧ PStep P n l.toArray o f1 w (fun v w' => Keep T w w' ∧ PW P n l p T cb Fin r ((dstOf l i, v) :: f) w')) ∨
    (cb i = false ∧ ∃ v, (∀ w', Keep T w w' → PStep P n l.toArray o f1 w' (fun v' w'' => v' = v ∧ w'' = w')) ∧ PW P n l p T cb Fin r ((dstOf l i, v) :: f) w))
theorem PStep.mono {ops : Array Oper} {o : Oper} {f1 : Fr} {w : World} {R R' : Value → World → Prop} (h : PStep P n ops o f1 w R) (hr : ∀ v w', R v w' → R' v w') : PStep P n ops o f1 w R' :=
 fun a ha K Q hK => h a ha K Q (fun v w' hv => hK v w' (hr v w' hv))
theorem iN : ∀ {f1 f : Fr}, Fr.sub f1 f → ∀ t u, f1.get t = some u → f.get t = some u
 | [], _, _, t, u, h => by cases h
 | (k, v) :: r, f, ⟨h1, h2⟩, t, u, h => by
   simp only [Fr.get] at h
   by_cases e : Nat.beq k t = true
   · rw [e] at h
     simp only [cond_true, Option.some.injEq] at h
     have e' : k = t := Nat.eq_of_beq_eq_true e
     subst e' h; exact h1
   · have e' : Nat.beq k t = false := eq_false_of_ne_true e
     rw [e'] at h
     exact iN h2 t u h
theorem iX : ∀ {f1 : Fr} {t : Nat} {u : Value}, f1.get t = some u → ∃ q, q ∈ f1 ∧ q.1 = t
 | [], t, u, h => by cases h
 | (k, v) :: r, t, u, h => by
   simp only [Fr.get] at h
   by_cases e : Nat.beq k t = true
   · exact ⟨(k, v), by simp, Nat.eq_of_beq_eq_true e⟩
   · have e' : Nat.beq k t = false := eq_false_of_ne_true e
     rw [e'] at h
     obtain ⟨q, hq, hq'⟩ := iX (f1 := r) h
     exact ⟨q, by simp [hq], hq'⟩
theorem jp {l : List Oper} {vs : Nat → Value} {f0 : Fr} : ∀ {pre : List Nat} {t : Nat} {u : Value}, (depFr l vs pre ++ f0).get t = some u → (∃ j, j ∈ pre ∧ dstOf l j = t ∧ vs j = u) ∨ f0.get t = some u
 | [], t, u, h => .inr h
 | j :: r, t, u, h => by
   simp only [depFr, List.cons_append, Fr.get] at h
   by_cases e : Nat.beq (dstOf l j) t = true
   · rw [e] at h
     simp only [cond_true, Option.some.injEq] at h
     exact .inl ⟨j, by simp, Nat.eq_of_beq_eq_true e, h⟩
   · have e' : Nat.beq (dstOf l j) t = false := eq_false_of_ne_true e
     rw [e'] at h
     rcases jp (pre := r) h with ⟨i, hi, h1, h2⟩ | h1
     · exact .inl ⟨i, by simp [hi], h1, h2⟩
     · exact .inr h1
theorem cg {l : List Oper} {cb : Nat → Bool} : ∀ {pre rest : List Nat}, eager l cb (pre ++ rest) = true → eager l cb rest = true ∧ (∀ i, i ∈ pre → i ∉ rest)
 | [], _, h => ⟨h, fun i hi => by cases hi⟩
 | c :: r, rest, h => by
   simp only [List.cons_append, eager, Bool.and_eq_true] at h
   obtain ⟨h1, h2⟩ := cg (pre := r) h.2
   refine ⟨h1, fun i hi hm => ?_⟩
   rcases List.mem_cons.1 hi with rfl | hi
   · have := h.1.1
     simp [hm] at this
   · exact h2 i hi hm
theorem dO {l : List Oper} (hok : drawOk n l = true) {i j : Nat} (hi : i < l.length) (hj : j < l.length) (hdi : hasDst l i = true) (hdj : hasDst l j = true) (he : dstOf l i = dstOf l j) : i = j := by
 have h1 := List.all_eq_true.1 hok i (List.mem_range.2 hi)
 have hget : l[i]? = some l[i] := List.getElem?_eq_getElem hi
 simp only [hget, Bool.and_eq_true] at h1
 have h2 := h1.2
 have hs : l[i].dst.isSome = true := by
   unfold hasDst at hdi; rw [hget] at hdi; simpa using hdi
 rw [hs, Bool.not_true, Bool.false_or] at h2
 have h3 := List.all_eq_true.1 h2 j (List.mem_range.2 hj)
 simp only [Bool.or_eq_true, beq_iff_eq, bne_iff_ne, ne_eq, Bool.not_eq_true'] at h3
 rcases h3 with (h3 | h3) | h3
 · exact h3
 · exact absurd he h3
 · rw [hdj] at h3; cases h3
section
variable {l : List Oper} {p : Nat} {T : List Nat} {cb : Nat → Bool} {Fin : Fr → World → Prop} {f0 : Fr}
def Lk (l : List Oper) (f0 : Fr) (pre : List Nat) (vs : Nat → Value) (i : Nat) (f1 : Fr) : Prop :=
 ∀ t u, f1.get t = some u → (∃ j, j ∈ pre ∧ depB l i j = true ∧ dstOf l j = t ∧ vs j = u) ∨ f0.get t = some u
theorem lk_of {n : NN} (hok : drawOk n l = true) (hpl : p ≤ l.length) {pre : List Nat} {vs : Nat → Value} {i : Nat} {f1 : Fr} (hpre : ∀ j, j ∈ pre → j < p ∧ hasDst l j = true) (hs : Fr.sub f1 (depFr l vs pre.reverse ++ f0)) (h : slotsOk l p i f1 = true) : Lk l f0 pre vs i f1 := by
 intro t u ht
 rcases jp (iN hs t u ht) with ⟨j, hj, h1, h2⟩ | h1
 · have hj' : j ∈ pre := by simpa using hj
   obtain ⟨q, hq, hq'⟩ := iX ht
   have h3 := List.all_eq_true.1 h q hq
   simp only [Bool.or_eq_true] at h3
   rcases h3 with h3 | h3
   · have h4 := List.all_eq_true.1 h3 j (List.mem_range.2 (hpre j hj').1)
     rw [(hpre j hj').2, hq'] at h4
     simp [h1] at h4
   · obtain ⟨j', hj1, h5⟩ := List.any_eq_true.1 h3
     simp only [Bool.and_eq_true, beq_iff_eq] at h5
     have hlt := List.mem_range.1 hj1
     have : j = j' := dO hok (Nat.lt_of_lt_of_le (hpre j hj').1 hpl) (Nat.lt_of_lt_of_le hlt hpl) (hpre j hj').2 h5.2.1 (by rw [h1, h5.2.2, hq'])
     subst this
     exact .inl ⟨j, hj', h5.1, h1, h2⟩
 · exact .inr h1
def RdOk (P : Program) (n : NN) (l : List Oper) (T : List Nat) (f0 : Fr) (pre : List Nat) (vs : Nat → Value) (w : World) (i : Nat) : Prop :=
 ∃ o f1, l[i]? = some o ∧ Lk l f0 pre vs i f1 ∧ ∀ w', Keep T w w' → PStep P n l.toArray o f1 w' (fun v' w'' => v' = vs i ∧ w'' = w')
theorem Lk.mono {pre pre' : List Nat} {vs vs' : Nat → Value} {i : Nat} {f1 : Fr} (h : Lk l f0 pre vs i f1) (hm : ∀ j, j ∈ pre → j ∈ pre' ∧ vs' j = vs j) : Lk l f0 pre' vs' i f1 := by
 intro t u ht
 rcases h t u ht with ⟨j, h1, h2, h3, h4⟩ | h1
 · exact .inl ⟨j, (hm j h1).1, h2, h3, by rw [(hm j h1).2, h4]⟩
 · exact .inr h1
theorem RdOk.mono {pre pre' : List Nat} {vs vs' : Nat → Value} {w w' : World} {i : Nat} (h : RdOk P n l T f0 pre vs w i) (hi : i ∈ pre) (hm : ∀ j, j ∈ pre → j ∈ pre' ∧ vs' j = vs j) (hk : Keep T w w') : RdOk P n l T f0 pre' vs' w' i := by
 obtain ⟨o, f1, h1, h2, h3⟩ := h
 refine ⟨o, f1, h1, h2.mono hm, fun w2 hk2 => ?_⟩
 rw [(hm i hi).2]
 exact h3 w2 (hk.trans hk2)
def setV (vs : Nat → Value) (i : Nat) (v : Value) : Nat → Value := fun j => bif Nat.beq j i then v else vs j
theorem dV (vs : Nat → Value) (i : Nat) (v : Value) : setV vs i v i = v := by simp [setV]
theorem di (vs : Nat → Value) {i j : Nat} (v : Value) (h : j ≠ i) : setV vs i v j = vs j := by
 unfold setV
 cases hb : Nat.beq j i with
 | false => rfl
 | true => exact absurd (Nat.eq_of_beq_eq_true hb) h
theorem fQ {vs : Nat → Value} {i : Nat} {v : Value} : ∀ {pre : List Nat}, i ∉ pre → depFr l (setV vs i v) pre = depFr l vs pre
 | [], _ => rfl
 | j :: r, h => by
   simp only [depFr]
   rw [di vs v (fun e => h (by simp [e])), fQ (pre := r) (fun hm => h (by simp [hm]))]
theorem absorb {n : NN} (hok : drawOk n l = true) (hpl : p ≤ l.length) : ∀ (rest pre : List Nat) (vs : Nat → Value) (w : World), eager l cb (pre ++ rest) = true → (∀ j, j ∈ pre ++ rest → j < p ∧ hasDst l j = true) → PW P n l p T cb Fin rest (depFr l vs pre.reverse ++ f0) w →
   (∀ i, i ∈ pre → cb i = false → RdOk P n l T f0 pre vs w i) → ∃ pre' rest' vs', pre ++ rest = pre' ++ rest' ∧ (∀ i, i ∈ pre → i ∈ pre' ∧ vs' i = vs i) ∧ (∀ i, i ∈ pre' → i ∈ pre ∨ cb i = false) ∧ (∀ c r, rest' = c :: r → cb c = true) ∧
     PW P n l p T cb Fin rest' (depFr l vs' pre'.reverse ++ f0) w ∧ ∀ i, i ∈ pre' → cb i = false → RdOk P n l T f0 pre' vs' w i
 | [], pre, vs, w, _, _, h, hr => ⟨pre, [], vs, rfl, fun i hi => ⟨hi, rfl⟩, fun i hi => .inl hi, (fun c r h => by cases h), h, hr⟩
 | i :: r, pre, vs, w, he, hb, h, hr => by
   have h0 := h
   unfold PW at h
   obtain ⟨o, f1, h1, h2, h3, h4⟩ := h
   rcases h4 with ⟨hc, _⟩ | ⟨hc, v, h5, h6⟩
   · exact ⟨pre, i :: r, vs, rfl, fun i hi => ⟨hi, rfl⟩, fun i hi => .inl hi, (fun c r h => by cases h; exact hc), h0, hr⟩
   · have hni : i ∉ pre := fun hm => (cg he).2 i hm (by simp)
     have hlk := lk_of (f0 := f0) hok hpl (fun j hj => hb j (by simp [hj])) h2 h3
     have hm : ∀ j, j ∈ pre → j ∈ pre ++ [i] ∧ setV vs i v j = vs j := fun j hj => ⟨by simp [hj], di vs v (fun e => hni (e ▸ hj))⟩
     have hnr : i ∉ pre.reverse := by simpa using hni
     obtain ⟨pre', rest', vs', k1, k2, k3, k4, k5, k6⟩ := absorb hok hpl r (pre ++ [i]) (setV vs i v) w (by simpa using he) (by simpa using hb)
       (by rw [List.reverse_append, List.reverse_singleton, List.singleton_append, depFr, dV, fQ hnr]; exact h6)
       (fun j hj hcj => by
         rcases List.mem_append.1 hj with h | h
         · exact (hr j h hcj).mono h hm (Keep.refl _ _)
         · rw [List.mem_singleton] at h
           subst h
           refine ⟨o, f1, h1, hlk.mono hm, fun w2 hk2 => ?_⟩
           rw [dV]; exact h5 w2 hk2)
     refine ⟨pre', rest', vs', by simpa using k1, fun j hj => ?_, fun j hj => ?_, k4, k5, k6⟩
     · obtain ⟨q1, q2⟩ := k2 j (hm j hj).1
       exact ⟨q1, q2.trans (hm j hj).2⟩
     · rcases k3 j hj with h | h
       · rcases List.mem_append.1 h with h | h
         · exact .inl h
         · rw [List.mem_singleton] at h; subst h; exact .inr hc
       · exact .inr h
theorem kn_lk {pre : List Nat} {vs : Nat → Value} {i : Nat} {f1 : Fr} {a : Act} (hk : Kn n f0 a) (hl : Lk l f0 pre vs i f1) (hd : ∀ j, depB l i j = true → j ∈ pre → a.tmps.getD (dstOf l j) undef = vs j) : Kn n f1 a := by
 refine ⟨hk.size, hk.defers, fun t u ht => ?_⟩
 rcases hl t u ht with ⟨j, h1, h2, h3, h4⟩ | h1
 · rw [← h3, ← h4]; exact hd j h2 h1
 · exact hk.get t u h1
end
variable {fin : Exit → Act → World → Prop} {k : List KI} {f : Fr} {w : World}
theorem cH {id : Nat} {l : List Oper} (p : Nat) (plan : List Nat) (cs : List Nat) (T : List Nat) (hm : P.follows .mixedOrders = true) (f0 : Fr) (hf : Fr.sub f0 f) (hok : planOk n l p plan (fun i => cs.contains i) = true) (hfree0 : freeOk (l.take p) f0 = true)
    (h : ∀ w1, Keep [] w w1 → PW P n l p T (fun i => cs.contains i) (fun f' w' => OW P fin n k l.toArray (l.drop p) f' w') plan f0 w1) :
    TW P fin n (.c (.region id l.toArray true) :: k) f w := by
  intro a ha
  simp only [KQ]
  have ha0 := ha.sub hf
  simp only [planOk, Bool.and_eq_true] at hok
  obtain ⟨⟨⟨⟨hdr, ht⟩, hall⟩, hcov⟩, heag⟩ := hok
  have hpl : p ≤ l.length := by simp only [tailOk, Bool.and_eq_true] at ht; exact Nat.le_of_ble_eq_true ht.1
  have hplan : ∀ j, j ∈ plan → j < p ∧ hasDst l j = true := by
    intro j hj
    have := List.all_eq_true.1 hall j hj
    simp only [Bool.and_eq_true] at this
    exact ⟨bD this.1, this.2⟩
  have hmem : ∀ j, j < p → j ∈ plan := by
    intro j hj
    have := List.all_eq_true.1 hcov j (List.mem_range.2 hj)
    simpa using this
  have hfree : ∀ i, i < p → hasDst l i = true → f0.get (dstOf l i) = none := by
    intro i hi hd
    have e1 : dstOf (l.take p) i = dstOf l i := by unfold dstOf; rw [List.getElem?_take, if_pos hi]
    have e2 : hasDst (l.take p) i = hasDst l i := by unfold hasDst; rw [List.getElem?_take, if_pos hi]
    rw [← e1]
    exact cD (l := l.take p) (by rw [List.length_take]; omega) (by rw [e2]; exact hd) hfree0
  refine wp_region_any hm ?_
  have key : ∀ (fuel : Nat) (listed : Array Bool) (a : Act) (w' : World), listed.size = l.length → left l.length listed ≤ fuel → Kn n f0 a → (∀ i, p ≤ i → i < l.length → listed.getD i false = false) → (∀ i, listed.getD i false = true → i < p) →
      (∃ pre rest vs, plan = pre ++ rest ∧ (∀ c r, rest = c :: r → cs.contains c = true) ∧ PW P n l p T (fun i => cs.contains i) (fun f' w' => OW P fin n k l.toArray (l.drop p) f' w') rest (depFr l vs pre.reverse ++ f0) w' ∧
        (∀ i, i ∈ pre → cs.contains i = false → RdOk P n l T f0 pre vs w' i) ∧ (∀ i, i ∈ pre → cs.contains i = true → listed.getD i false = true) ∧ (∀ i, listed.getD i false = true → i ∈ pre ∧ a.tmps.getD (dstOf l i) undef = vs i)) →
      wpAny P .any l.toArray (KQ P fin k) fuel listed a w' := by
    intro fuel
    induction fuel with
    | zero =>
      intro listed a w' hs hle hk hun hlp hst
      have hlist : ∀ i, i < l.length → listed.getD i false = true := by
        intro i hi
        cases hc : listed.getD i false with
        | true => rfl
        | false =>
          exfalso
          have := cm hi hs (by rw [bP hs hi true false]; exact hc)
          omega
      have hpe : p = l.length := by
        rcases Nat.lt_or_ge p l.length with h1 | h1
        · have := hun p (Nat.le_refl _) h1; rw [hlist p h1] at this; cases this
        · omega
      obtain ⟨pre, rest, vs, h1, h2, h3, h4, h5, h6⟩ := hst
      have hrest : rest = [] := by
        cases rest with
        | nil => rfl
        | cons c r =>
          exfalso
          have hc := hplan c (by rw [h1]; simp)
          have := (h6 c (hlist c (by omega))).1
          exact (cg (pre := pre) (h1 ▸ heag)).2 c this (by simp)
      subst hrest
      refine fL hdr ht 0 p 0 listed a w' (by omega) hpl (Nat.le_refl _) (Nat.le_refl _) hs (fun i hi => by rw [hlist i hi]; simp; omega) ?_
      refine h3 a (Kn.app ?_ hk)
      intro q hq
      obtain ⟨j, hj, rfl⟩ := ca hq
      have hj' : j ∈ pre := by simpa using hj
      exact (h6 j (hlist j (by have := (hplan j (by rw [h1]; simp [hj'])).1; omega))).2
    | succ fuel ih =>
      intro listed a w' hs hle hk hun hlp hst
      obtain ⟨pre, rest, vs, h1, h2, h3, h4, h5, h6⟩ := hst
      by_cases hfull : ∀ i, i < p → listed.getD i false = true
      · have hrest : rest = [] := by
          cases rest with
          | nil => rfl
          | cons c r =>
            exfalso
            have hc := hplan c (by rw [h1]; simp)
            have := (h6 c (hfull c hc.1)).1
            exact (cg (pre := pre) (h1 ▸ heag)).2 c this (by simp)
        subst hrest
        refine fL hdr ht (l.length - p) p (fuel + 1) listed a w' rfl hpl (Nat.le_refl _) ?_ hs (fun i hi => ?_) ?_
        · refine Nat.le_trans ?_ hle
          unfold left
          have e1 : l.length - p = ((List.range' p (l.length - p)).countP fun i => !listed.getD i true) := by
            rw [List.countP_eq_length.2 (fun i hi => ?_)]
            · simp
            · rw [List.mem_range'_1] at hi
              rw [bP hs (by omega) true false, hun i (by omega) (by omega)]; rfl
          rw [e1]
          have e2 : List.range l.length = List.range p ++ List.range' p (l.length - p) := by
            have e3 := List.range'_append_1 (s := 0) (m := p) (n := l.length - p)
            rw [Nat.zero_add] at e3
            rw [List.range_eq_range', List.range_eq_range', e3]; congr 1; omega
          rw [e2, List.countP_append]; omega
        · by_cases hip : i < p
          · rw [hfull i hip]; simp [hip]
          · rw [hun i (by omega) hi]; simp [hip]
        · refine h3 a (Kn.app ?_ hk)
          intro q hq
          obtain ⟨j, hj, rfl⟩ := ca hq
          have hj' : j ∈ pre := by simpa using hj
          exact (h6 j (hfull j (hplan j (by rw [h1]; simp [hj'])).1)).2
      · obtain ⟨q, hq⟩ := Classical.not_forall.1 hfull
        obtain ⟨hq1, hq2⟩ := Classical.not_imp.1 hq
        have hq2 : listed.getD q false = false := eq_false_of_ne_true hq2
        refine ⟨fun hr => (by
          have := dn hdr rfl hs hr q (by omega)
          rw [hq2] at this; cases this), fun i hi => ?_⟩
        obtain ⟨h0, o, ho, hedge⟩ := mem_ready.1 hi
        have ho' : l[i]? = some o := by simpa using ho
        have hlt : i < l.length := (List.getElem?_eq_some_iff.1 ho').1
        have hdepl : ∀ j, depB l i j = true → listed.getD j false = true := by
          intro j hj
          simp only [depB, ho'] at hj
          obtain ⟨e, he, h7⟩ := List.any_eq_true.1 hj
          simp only [Bool.and_eq_true, beq_iff_eq] at h7
          have := hedge e (Array.mem_toList_iff.1 he) h7.2
          rwa [h7.1] at this
        have hip : i < p := by
          rcases Nat.lt_or_ge i p with h7 | h7
          · exact h7
          · exfalso
            obtain ⟨e, he, h8, h9⟩ := gY ht hlt h7 (Nat.lt_of_lt_of_le hq1 h7) ho'
            have := hedge e he h9
            rw [h8, hq2] at this; cases this
        have hil : listed.getD i false = false := by rw [bP hs hlt false true]; exact h0
        have hid : hasDst l i = true := (hplan i (hmem i hip)).2
        obtain ⟨d, hod⟩ : ∃ d, o.dst = some d := by
          unfold hasDst at hid; rw [ho'] at hid
          cases hd : o.dst with
          | none => rw [Option.bind_some, hd] at hid; cases hid
          | some d => exact ⟨d, rfl⟩
        have hdd : dstOf l i = d := by simp [dstOf, ho', hod]
        have hdn : d < n := by
          have h8 := List.all_eq_true.1 hdr i (List.mem_range.2 hlt)
          simp only [ho', Bool.and_eq_true] at h8
          rw [hdd] at h8
          exact bD h8.1.1
        have hleft := cm hlt hs h0
        have hun' : ∀ j, p ≤ j → j < l.length → (listed.setIfInBounds i true).getD j false = false := fun j h1 h2 => by rw [getD_set_ne false (by omega)]; exact hun j h1 h2
        have hlp' : ∀ j, (listed.setIfInBounds i true).getD j false = true → j < p := by
          intro j hj
          by_cases hij : i = j
          · subst hij; exact hip
          · rw [getD_set_ne false hij] at hj; exact hlp j hj
        have hput : ∀ v, (a.put o.dst v).tmps.getD (dstOf l i) undef = v := by
          intro v
          rw [hdd, hod]; simp [Act.put, Array.getD_eq_getD_getElem?, hk.size, hdn]
        have hputo : ∀ v j, j < p → hasDst l j = true → i ≠ j → (a.put o.dst v).tmps.getD (dstOf l j) undef = a.tmps.getD (dstOf l j) undef := by
          intro v j hj hdj hij
          have hne : d ≠ dstOf l j := fun e => hij (dO hdr hlt (by omega) hid hdj (by rw [hdd, e]))
          rw [hod]
          simp only [Act.put, Array.getD_eq_getD_getElem?]; rw [Array.getElem?_setIfInBounds_ne hne]
        have hkput : ∀ v, Kn n f0 (a.put o.dst v) := by
          intro v
          rw [hod]
          exact hk.putOther (by rw [← hdd]; exact hfree i hip hid) v
        have hpm := hmem i hip
        rw [h1] at hpm
        have hpredep : ∀ j, depB l i j = true → j ∈ pre → a.tmps.getD (dstOf l j) undef = vs j := fun j hj _ => (h6 j (hdepl j hj)).2
        have step : ∀ f1, Kn n f1 a → ∀ R : Value → World → Prop, PStep P n l.toArray o f1 w' R → (∀ v w2, R v w2 → wpAny P .any l.toArray (KQ P fin k) fuel (listed.setIfInBounds i true) (a.put o.dst v) w2) → wpOp P l.toArray (KQ P fin k) i (wpAny P .any l.toArray (KQ P fin k) fuel (listed.setIfInBounds i true)) a w' := by
          intro f1 hkf R hp hn
          obtain ⟨p1, p2⟩ := hp a hkf (wpAny P .any l.toArray (KQ P fin k) fuel (listed.setIfInBounds i true)) (KQ P fin k) hn
          unfold wpOp
          rw [ho]
          simp only
          by_cases hw : Region.wanted o (yielded l.toArray a.tmps) = true
          · rw [if_pos hw]; exact .inl (p1 hw)
          · rw [if_neg hw]; exact p2 (eq_false_of_ne_true hw)
        rcases List.mem_append.1 hpm with hpre | hrs
        · have hcb : cs.contains i = false := by
            cases hc : cs.contains i with
            | false => rfl
            | true => have := h5 i hpre hc; rw [hil] at this; cases this
          obtain ⟨o2, f1, g1, g2, g3⟩ := h4 i hpre hcb
          rw [ho'] at g1
          simp only [Option.some.injEq] at g1
          subst g1
          refine step f1 (kn_lk hk g2 hpredep) _ (g3 w' (Keep.refl _ _)) ?_
          rintro v w2 ⟨rfl, rfl⟩
          refine ih _ _ _ (by simpa using hs) (by omega) (hkput _) hun' hlp' ⟨pre, rest, vs, h1, h2, h3, h4, fun j hj hc => ?_, fun j hj => ?_⟩
          · by_cases hij : i = j
            · subst hij; rw [hcb] at hc; cases hc
            · rw [getD_set_ne false hij]; exact h5 j hj hc
          · by_cases hij : i = j
            · subst hij; exact ⟨hpre, hput _⟩
            · rw [getD_set_ne false hij] at hj
              obtain ⟨m1, m2⟩ := h6 j hj
              have hpj := hplan j (by rw [h1]; simp [m1])
              exact ⟨m1, by rw [hputo _ j hpj.1 hpj.2 hij]; exact m2⟩
        · cases rest with
          | nil => cases hrs
          | cons c r =>
            have hcc := h2 c r rfl
            rw [h1] at heag
            obtain ⟨he1, he2⟩ := cg heag
            rcases List.mem_cons.1 hrs with hic | hir
            · subst hic
              have h30 := h3
              unfold PW at h30
              obtain ⟨o2, f1, g1, g2, g3, g4⟩ := h30
              rw [ho'] at g1
              simp only [Option.some.injEq] at g1
              subst g1
              rcases g4 with ⟨_, g4⟩ | ⟨g4, _⟩
              · have hlk := lk_of (f0 := f0) hdr hpl (fun j hj => hplan j (by rw [h1]; simp [hj])) g2 g3
                refine step f1 (kn_lk hk hlk hpredep) _ g4 ?_
                rintro v w2 ⟨hkw, hpw⟩
                have hni : i ∉ pre := fun hm => he2 i hm (by simp)
                have hnr : i ∉ pre.reverse := by simpa using hni
                have hmm : ∀ j, j ∈ pre → j ∈ pre ++ [i] ∧ setV vs i v j = vs j := fun j hj => ⟨by simp [hj], di vs v (fun e => hni (e ▸ hj))⟩
                obtain ⟨pre', rest', vs', k1, k2, k3, k4, k5, k6⟩ := absorb (f0 := f0) (T := T) (cb := fun i => cs.contains i) hdr hpl r (pre ++ [i]) (setV vs i v) w2 (by rw [List.append_assoc, List.singleton_append]; exact heag) (by rw [List.append_assoc, List.singleton_append, ← h1]; exact hplan)
                  (by rw [List.reverse_append, List.reverse_singleton, List.singleton_append, depFr, dV, fQ hnr]; exact hpw)
                  (fun j hj hcj => by
                    rcases List.mem_append.1 hj with h | h
                    · exact (h4 j h hcj).mono h hmm hkw
                    · rw [List.mem_singleton] at h
                      subst h; rw [hcc] at hcj; cases hcj)
                have hsame : ∀ j, j ∈ pre → j ∈ pre' ∧ vs' j = vs j := fun j hj => ⟨(k2 j (hmm j hj).1).1, ((k2 j (hmm j hj).1).2).trans (hmm j hj).2⟩
                have hci := k2 i (by simp)
                rw [dV] at hci
                refine ih _ _ _ (by simpa using hs) (by omega) (hkput _) hun' hlp' ⟨pre', rest', vs', by rw [← k1, h1]; simp, k4, k5, k6, fun j hj hc => ?_, fun j hj => ?_⟩
                · by_cases hij : i = j
                  · subst hij
                    rw [Array.getD_eq_getD_getElem?]; simp [hs, hlt]
                  · rw [getD_set_ne false hij]
                    rcases k3 j hj with h | h
                    · rcases List.mem_append.1 h with h | h
                      · exact h5 j h hc
                      · rw [List.mem_singleton] at h; exact absurd h.symm hij
                    · rw [hc] at h; cases h
                · by_cases hij : i = j
                  · subst hij; exact ⟨hci.1, by rw [hput, hci.2]⟩
                  · rw [getD_set_ne false hij] at hj
                    obtain ⟨m1, m2⟩ := h6 j hj
                    have hpj := hplan j (by rw [h1]; simp [m1])
                    exact ⟨(hsame j m1).1, by rw [hputo _ j hpj.1 hpj.2 hij, (hsame j m1).2]; exact m2⟩
              · rw [hcc] at g4; cases g4
            · exfalso
              simp only [eager, Bool.and_eq_true] at he1
              have h7 := he1.1.2
              rw [hcc, Bool.not_true, Bool.false_or] at h7
              have h8 := List.all_eq_true.1 h7 i hir
              obtain ⟨j, hj, hdj⟩ := List.any_eq_true.1 h8
              exact he2 j (h6 j (hdepl j hdj)).1 hj
  obtain ⟨pre', rest', vs', k1, k2, k3, k4, k5, k6⟩ := absorb (f0 := f0) (T := T) hdr hpl plan [] (fun _ => undef) _ heag hplan (h _ (bp w)) (fun i hi => by cases hi)
  refine key _ _ a _ (by simp) ?_ ha0 ?_ ?_ ⟨pre', rest', vs', k1, k4, k5, k6, fun i hi hc => ?_, fun i hi => ?_⟩
  · unfold left
    have := List.countP_le_length (p := fun i => !(Array.replicate l.toArray.size false).getD i true) (l := List.range l.length)
    simpa using this
  · intro i _ hi
    rw [Array.getD_eq_getD_getElem?, Array.getElem?_eq_getElem (by simpa using hi)]; simp
  · intro i hi
    exfalso
    rw [Array.getD_eq_getD_getElem?] at hi
    rcases Nat.lt_or_ge i l.toArray.size with h' | h'
    · rw [Array.getElem?_eq_getElem (by simpa using h')] at hi; simp at hi
    · rw [Array.getElem?_eq_none (by simpa using h')] at hi; simp at hi
  · rcases k3 i hi with h | h
    · cases h
    · rw [hc] at h; cases h
  · exfalso
    rw [Array.getD_eq_getD_getElem?] at hi
    rcases Nat.lt_or_ge i l.toArray.size with h' | h'
    · rw [Array.getElem?_eq_getElem (by simpa using h')] at hi; simp at hi
    · rw [Array.getElem?_eq_none (by simpa using h')] at hi; simp at hi
end
end Go.Eng
namespace Go.Eng
open Go Go.IntWalk
section
variable {P : Program} {n : NN} {f : Fr} {w : World} {ty : TypeId} {fin : Exit → Act → World → Prop} {k : List KI} {l : List Oper} {p : Nat} {T cs r : List Nat} {Fin : Fr → World → Prop} {i : Nat}
theorem gT (m se : Nat) : ∀ (i : Nat) (x : Nat × Nat), ((List.range m).map fun i => (i * se, se))[i]? = some x → some (i * se, se) = some x := by
  intro i x h
  rw [List.getElem?_map] at h
  rcases Nat.lt_or_ge i m with hi | hi
  · rw [List.getElem?_range hi] at h; simpa using h
  · rw [List.getElem?_eq_none (by simpa using hi)] at h; cases h
theorem gw {d : Nat} {op : Op} {pos : String} {aft : Array Edge} {g : Option (Nat × Bool)} (ho : l[i]? = some ⟨some d, op, ty, pos, aft, g⟩) : dstOf l i = d := by unfold dstOf; rw [ho]; rfl
theorem cY (h : OW P fin n k l.toArray (l.drop p) f w) : PW P n l p T (fun i => cs.contains i) (fun f' w' => OW P fin n k l.toArray (l.drop p) f' w') [] f w := by unfold PW; exact h
theorem ji {f1 : Fr} {ops : Array Oper} {d : Nat} {op : Op} {pos : String} {aft : Array Edge} {v : Value} (hr : Gives P n f1 w op ty v w) : PStep P n ops ⟨some d, op, ty, pos, aft, none⟩ f1 w (fun v' w'' => v' = v ∧ w'' = w) := by
  intro a ha K Q hK
  refine ⟨fun _ => ?_, fun h => by simp [Region.wanted] at h⟩
  unfold Oper.wp
  rw [hr a ha]
  exact hK _ _ ⟨rfl, rfl⟩
theorem pw_g (f1 : Fr) {op : Op} {d : Nat} {pos : String} {aft : Array Edge} {v : Value} (ho : l[i]? = some ⟨some d, op, ty, pos, aft, none⟩) (hc : cs.contains i = false) (hs : Fr.sub f1 f) (hk : slotsOk l p i f1 = true)
   (hr : ∀ w', Keep T w w' → Gives P n f1 w' op ty v w') (h : PW P n l p T (fun i => cs.contains i) Fin r ((d, v) :: f) w) : PW P n l p T (fun i => cs.contains i) Fin (i :: r) f w := by
 unfold PW
 exact ⟨_, f1, ho, hs, hk, .inr ⟨hc, v, fun w' hw => ji (hr w' hw), by rw [gw ho]; exact h⟩⟩
theorem dK (f1 : Fr) {op : Op} {d : Nat} {pos : String} {aft : Array Edge} {R : Value → World → Prop} (ho : l[i]? = some ⟨some d, op, ty, pos, aft, none⟩) (hc : cs.contains i = true) (hs : Fr.sub f1 f) (hk : slotsOk l p i f1 = true)
   (hr : Does P n f1 w op ty R) (h : ∀ v w', R v w' → Keep T w w' ∧ PW P n l p T (fun i => cs.contains i) Fin r ((d, v) :: f) w') : PW P n l p T (fun i => cs.contains i) Fin (i :: r) f w := by
 unfold PW
 refine ⟨_, f1, ho, hs, hk, .inl ⟨hc, fun a ha K Q hK => ⟨fun _ => ?_, fun h => by simp [Region.wanted] at h⟩⟩⟩
 exact hr a ha _ _ _ _ _ _ (fun v w' hv => hK _ _ (by rw [gw ho]; exact h v w' hv))
end
end Go.Eng
namespace Go.Eng
open Go Go.IntWalk
def cblk : Value → List Nat
 | .tuple vs => vs.toList.flatMap fun u => u.cells.toList.flatMap vblk
 | v => v.cells.toList.flatMap vblk
section
variable {P : Program} {n : NN}
def dZ (l : List Oper) (p : Nat) : Bool := Nat.ble p l.length && ((List.range l.length).all fun i => !(Nat.blt p i) || depB l i (i - 1)) && (Nat.ble l.length p || (List.range p).all fun j => (List.range (p + 1)).any fun m => Nat.blt j m && depB l m j)
theorem fB {l : List Oper} {i j : Nat} (h : depB l i j = true) : ∃ o, l[i]? = some o ∧ ∃ e ∈ o.after, e.on = j ∧ Region.binds .any e = true := by
 unfold depB at h
 cases ho : l[i]? with
 | none => rw [ho] at h; cases h
 | some o =>
   rw [ho] at h
   obtain ⟨e, he, h3⟩ := List.any_eq_true.1 h
   simp only [Bool.and_eq_true, beq_iff_eq] at h3
   exact ⟨o, rfl, e, Array.mem_toList_iff.1 he, h3.1, h3.2⟩
theorem eb {l : List Oper} {p i : Nat} (h : dZ l p = true) (hi : i < l.length) (hp : p < i) : depB l i (i - 1) = true := by
 simp only [dZ, Bool.and_eq_true] at h
 have h1 := List.all_eq_true.1 h.1.2 i (List.mem_range.2 hi)
 have hn : Nat.blt p i = true := Nat.ble_eq_true_of_le hp
 rw [hn] at h1; simpa using h1
theorem fm {l : List Oper} {p : Nat} {S : Nat → Prop} (h : dZ l p = true) (hp : p < l.length) (hS : ∀ i j, i = p ∨ S i → depB l i j = true → S j) : ∀ d j, j < p → d = p - j → S j := by
 intro d
 induction d using Nat.strongRecOn with
 | ind d ih =>
   intro j hj hd
   simp only [dZ, Bool.and_eq_true, Bool.or_eq_true] at h
   rcases h.2 with h1 | h1
   · have := Nat.le_of_ble_eq_true h1; omega
   · obtain ⟨m, hm, h2⟩ := List.any_eq_true.1 (List.all_eq_true.1 h1 j (List.mem_range.2 hj))
     simp only [Bool.and_eq_true] at h2
     have h3 := bD h2.1
     have h4 := List.mem_range.1 hm
     refine hS m j ?_ h2.2
     rcases Nat.lt_or_ge m p with h5 | h5
     · exact .inr (ih (p - m) (by omega) m h5 rfl)
     · exact .inl (by omega)
theorem eC {l : List Oper} {p0 : Nat} {Q : Exit → Act → World → Prop} (hok : drawOk n l = true) (ht : dZ l p0 = true) : ∀ (d p fuel : Nat) (listed : Array Bool) (a : Act) (w : World), d = l.length - p → p ≤ l.length → p0 ≤ p → d ≤ fuel → listed.size = l.length →
   (∀ i, i < l.length → listed.getD i false = decide (i < p)) → wpList P l.toArray Q (l.drop p) a w → wpAny P .any l.toArray Q fuel listed a w := by
 intro d
 induction d with
 | zero =>
   intro p fuel listed a w hd hp hp0 hf hs hl h
   have hpl : p = l.length := by omega
   subst hpl
   rw [List.drop_length] at h
   have hr : Region.ready .any l.toArray listed = [] := by
     cases hr : Region.ready .any l.toArray listed with
     | nil => rfl
     | cons i r =>
       exfalso
       have hi : i ∈ Region.ready .any l.toArray listed := by rw [hr]; simp
       obtain ⟨h0, o, ho, _⟩ := mem_ready.1 hi
       have hlt : i < l.length := by have := (Array.getElem?_eq_some_iff.1 ho).1; simpa using this
       rw [bP hs hlt true false, hl i hlt] at h0
       simp [hlt] at h0
   cases fuel with
   | zero => exact ⟨hr, h⟩
   | succ f => exact ⟨fun _ => h, fun i hi => by rw [hr] at hi; cases hi⟩
 | succ d ih =>
   intro p fuel listed a w hd hp hp0 hf hs hl h
   have hplt : p < l.length := by omega
   obtain ⟨f, rfl⟩ : ∃ f, fuel = f + 1 := ⟨fuel - 1, by omega⟩
   have hget : l[p]? = some l[p] := List.getElem?_eq_getElem hplt
   have honly : ∀ i, i ∈ Region.ready .any l.toArray listed → i = p := by
     intro i hi
     obtain ⟨h0, o, ho, hedge⟩ := mem_ready.1 hi
     have hlt : i < l.length := by have := (Array.getElem?_eq_some_iff.1 ho).1; simpa using this
     have h1 : ¬ i < p := by
       rw [bP hs hlt true false, hl i hlt] at h0
       simpa using h0
     rcases Nat.lt_or_ge p i with h2 | h2
     · obtain ⟨o', ho', e, he, h3, h4⟩ := fB (eb ht hlt (by omega))
       rw [show l[i]? = some o from by simpa using ho] at ho'
       obtain rfl := Option.some.inj ho'
       have := hedge e he h4
       rw [h3, hl (i - 1) (by omega)] at this
       have := of_decide_eq_true this
       omega
     · omega
   have hmem : p ∈ Region.ready .any l.toArray listed := by
     refine mem_ready.2 ⟨by rw [bP hs hplt true false, hl p hplt]; simp, l[p], by simp [hget], fun e he hb => ?_⟩
     have h1 := List.all_eq_true.1 hok p (List.mem_range.2 hplt)
     simp only [hget, Bool.and_eq_true] at h1
     have h2 := List.all_eq_true.1 h1.1.2 e (Array.mem_toList_iff.2 he)
     rw [hb] at h2
     have h3 : e.on < p := bD (by simpa using h2)
     rw [hl e.on (by omega)]; simpa using h3
   refine ⟨fun hr => (by rw [hr] at hmem; cases hmem), fun i hi => ?_⟩
   have := honly i hi
   subst this
   rw [List.drop_eq_getElem_cons hplt] at h
   unfold wpOp
   rw [show l.toArray[i]? = some l[i] from by simp [hget]]
   simp only
   unfold wpList at h
   have hnext : ∀ a' w', wpList P l.toArray Q (l.drop (i + 1)) a' w' → wpAny P .any l.toArray Q f (listed.setIfInBounds i true) a' w' := by
     intro a' w' h'
     refine ih (i + 1) f _ a' w' (by omega) (by omega) (by omega) (by omega) (by simpa using hs) ?_ h'
     intro j hj
     by_cases hij : i = j
     · subst hij
       rw [Array.getD_eq_getD_getElem?]; simp [hs, hj]
     · rw [getD_set_ne false hij, hl j hj]
       by_cases h1 : j < i
       · simp [h1]; omega
       · simp [h1]; omega
   split at h
   · rename_i hw
     rw [if_pos hw]
     exact h.imp (fun h => Oper.wp_mono (fun a' w' h' => hnext a' w' h') h) id
   · rename_i hw
     rw [if_neg hw]
     exact hnext _ _ h
def dpF (l : List Oper) (vs : Nat → Value) : List Nat → Fr
 | [] => []
 | j :: r => bif hasDst l j then (dstOf l j, vs j) :: dpF l vs r else dpF l vs r
theorem iV {l : List Oper} {vs : Nat → Value} {q : Nat × Value} : ∀ {deps : List Nat}, q ∈ dpF l vs deps → ∃ j, j ∈ deps ∧ hasDst l j = true ∧ q = (dstOf l j, vs j)
 | [], h => by cases h
 | j :: r, h => by
   unfold dpF at h
   cases hd : hasDst l j with
   | true =>
     rw [hd, cond_true, List.mem_cons] at h
     rcases h with h | h
     · exact ⟨j, by simp, hd, h⟩
     · obtain ⟨i, h1, h2, h3⟩ := iV h
       exact ⟨i, by simp [h1], h2, h3⟩
   | false =>
     rw [hd, cond_false] at h
     obtain ⟨i, h1, h2, h3⟩ := iV h
     exact ⟨i, by simp [h1], h2, h3⟩
theorem iY {l : List Oper} {vs : Nat → Value} {f0 : Fr} : ∀ {pre : List Nat} {t : Nat} {u : Value}, (dpF l vs pre ++ f0).get t = some u → (∃ j, j ∈ pre ∧ hasDst l j = true ∧ dstOf l j = t ∧ vs j = u) ∨ f0.get t = some u
 | [], t, u, h => .inr h
 | j :: r, t, u, h => by
   have rest : (dpF l vs r ++ f0).get t = some u → (∃ i, i ∈ j :: r ∧ hasDst l i = true ∧ dstOf l i = t ∧ vs i = u) ∨ f0.get t = some u := by
     intro h
     rcases iY (pre := r) h with ⟨i, hi, h1, h2⟩ | h1
     · exact .inl ⟨i, by simp [hi], h1, h2⟩
     · exact .inr h1
   unfold dpF at h
   cases hd : hasDst l j with
   | false => rw [hd, cond_false] at h; exact rest h
   | true =>
     rw [hd, cond_true] at h
     simp only [List.cons_append, Fr.get] at h
     by_cases e : Nat.beq (dstOf l j) t = true
     · rw [e] at h
       simp only [cond_true, Option.some.injEq] at h
       exact .inl ⟨j, by simp, hd, Nat.eq_of_beq_eq_true e, h⟩
     · have e' : Nat.beq (dstOf l j) t = false := eq_false_of_ne_true e
       rw [e'] at h
       exact rest h
def frPut (l : List Oper) (i : Nat) (v : Value) (f : Fr) : Fr := bif hasDst l i then (dstOf l i, v) :: f else f
theorem jF {l : List Oper} {vs : Nat → Value} {i : Nat} {r : List Nat} {f0 : Fr} : dpF l vs (i :: r) ++ f0 = frPut l i (vs i) (dpF l vs r ++ f0) := by
 unfold frPut
 simp only [dpF]
 cases hasDst l i <;> rfl
section
variable {l : List Oper} {p : Nat} {T : List Nat} {f0 : Fr}
def LkA (l : List Oper) (f0 : Fr) (pre : List Nat) (vs : Nat → Value) (i : Nat) (f1 : Fr) : Prop :=
 ∀ t u, f1.get t = some u → (∃ j, j ∈ pre ∧ depB l i j = true ∧ hasDst l j = true ∧ dstOf l j = t ∧ vs j = u) ∨ f0.get t = some u
theorem lM {n : NN} (hok : drawOk n l = true) (hpl : p ≤ l.length) {pre : List Nat} {vs : Nat → Value} {i : Nat} {f1 : Fr} (hpre : ∀ j, j ∈ pre → j < p) (hs : Fr.sub f1 (dpF l vs pre.reverse ++ f0)) (h : slotsOk l p i f1 = true) : LkA l f0 pre vs i f1 := by
 intro t u ht
 rcases iY (iN hs t u ht) with ⟨j, hj, h0, h1, h2⟩ | h1
 · have hj' : j ∈ pre := by simpa using hj
   obtain ⟨q, hq, hq'⟩ := iX ht
   have h3 := List.all_eq_true.1 h q hq
   simp only [Bool.or_eq_true] at h3
   rcases h3 with h3 | h3
   · have h4 := List.all_eq_true.1 h3 j (List.mem_range.2 (hpre j hj'))
     rw [h0, hq'] at h4
     simp [h1] at h4
   · obtain ⟨j', hj1, h5⟩ := List.any_eq_true.1 h3
     simp only [Bool.and_eq_true, beq_iff_eq] at h5
     have hlt := List.mem_range.1 hj1
     have : j = j' := dO hok (Nat.lt_of_lt_of_le (hpre j hj') hpl) (Nat.lt_of_lt_of_le hlt hpl) h0 h5.2.1 (by rw [h1, h5.2.2, hq'])
     subst this
     exact .inl ⟨j, hj', h5.1, h0, h1, h2⟩
 · exact .inr h1
def RdOkA (P : Program) (n : NN) (l : List Oper) (T : List Nat) (f0 : Fr) (pre : List Nat) (vs : Nat → Value) (w : World) (i : Nat) : Prop :=
 ∃ o f1, l[i]? = some o ∧ LkA l f0 pre vs i f1 ∧ ∀ w', Keep T w w' → PStep P n l.toArray o f1 w' (fun v' w'' => v' = vs i ∧ w'' = w')
theorem LkA.mono {pre pre' : List Nat} {vs vs' : Nat → Value} {i : Nat} {f1 : Fr} (h : LkA l f0 pre vs i f1) (hm : ∀ j, j ∈ pre → j ∈ pre' ∧ vs' j = vs j) : LkA l f0 pre' vs' i f1 := by
 intro t u ht
 rcases h t u ht with ⟨j, h1, h2, h3, h4, h5⟩ | h1
 · exact .inl ⟨j, (hm j h1).1, h2, h3, h4, by rw [(hm j h1).2, h5]⟩
 · exact .inr h1
theorem RdOkA.mono {pre pre' : List Nat} {vs vs' : Nat → Value} {w w' : World} {i : Nat} (h : RdOkA P n l T f0 pre vs w i) (hi : i ∈ pre) (hm : ∀ j, j ∈ pre → j ∈ pre' ∧ vs' j = vs j) (hk : Keep T w w') : RdOkA P n l T f0 pre' vs' w' i := by
 obtain ⟨o, f1, h1, h2, h3⟩ := h
 refine ⟨o, f1, h1, h2.mono hm, fun w2 hk2 => ?_⟩
 rw [(hm i hi).2]
 exact h3 w2 (hk.trans hk2)
theorem gx {vs : Nat → Value} {i : Nat} {v : Value} : ∀ {pre : List Nat}, i ∉ pre → dpF l (setV vs i v) pre = dpF l vs pre
 | [], _ => rfl
 | j :: r, h => by
   simp only [dpF]
   rw [di vs v (fun e => h (by simp [e])), gx (pre := r) (fun hm => h (by simp [hm]))]
theorem lO {pre : List Nat} {vs : Nat → Value} {i : Nat} {f1 : Fr} {a : Act} (hk : Kn n f0 a) (hl : LkA l f0 pre vs i f1) (hd : ∀ j, depB l i j = true → j ∈ pre → hasDst l j = true → a.tmps.getD (dstOf l j) undef = vs j) : Kn n f1 a := by
 refine ⟨hk.size, hk.defers, fun t u ht => ?_⟩
 rcases hl t u ht with ⟨j, h1, h2, h3, h4, h5⟩ | h1
 · rw [← h4, ← h5]; exact hd j h2 h1 h3
 · exact hk.get t u h1
end
def planOkA (n : Nat) (l : List Oper) (p : Nat) (plan : List Nat) (cb : Nat → Bool) (fl : List Nat) : Bool :=
 drawOk n l && dZ l p && plan.all (fun i => Nat.blt i p && (hasDst l i || cb i)) && (List.range p).all (fun i => plan.contains i || fl.contains i) && eager l cb plan && fl.all (fun i => Nat.blt i p && !plan.contains i)
def PA (P : Program) (n : NN) (l : List Oper) (p : Nat) (T : List Nat) (O : Nat → Prop) (cb : Nat → Bool) (Fin : Fr → World → Prop) : List Nat → Fr → World → Prop
 | [], f, w => Fin f w
 | i :: r, f, w => ∃ o f1, l[i]? = some o ∧ Fr.sub f1 f ∧ slotsOk l p i f1 = true ∧
   ((cb i = true ∧ ∀ w1, Keep [] w w1 → PStep P n l.toArray o f1 w1 (fun v w' => Keep T w1 w' ∧ (∀ x, x ∈ cblk v → (O x ∨ w1.heap.size ≤ x) ∧ x < w'.heap.size) ∧ PA P n l p T O cb Fin r (frPut l i v f) w')) ∨
    (cb i = false ∧ ∃ v, (∀ w', Keep T w w' → PStep P n l.toArray o f1 w' (fun v' w'' => v' = v ∧ w'' = w')) ∧ PA P n l p T O cb Fin r (frPut l i v f) w))
theorem PA.grow {l : List Oper} {p : Nat} {T : List Nat} {O : Nat → Prop} {cb : Nat → Bool} {Fin : Fr → World → Prop} (hF : ∀ f w w', Keep [] w w' → Fin f w → Fin f w') : ∀ (pl : List Nat) (f : Fr) (w w' : World), Keep [] w w' → PA P n l p T O cb Fin pl f w → PA P n l p T O cb Fin pl f w'
 | [], f, w, w', k, h => by unfold PA at *; exact hF _ _ _ k h
 | i :: r, f, w, w', k, h => by
   unfold PA at *
   obtain ⟨o, f1, h1, h2, h3, h4⟩ := h
   refine ⟨o, f1, h1, h2, h3, ?_⟩
   rcases h4 with ⟨hc, h4⟩ | ⟨hc, v, h5, h6⟩
   · exact .inl ⟨hc, fun w1 k1 => h4 w1 (k.trans k1)⟩
   · exact .inr ⟨hc, v, fun w1 k1 => h5 w1 (k.weak.trans k1), PA.grow hF r _ w w' k h6⟩
section
variable {l : List Oper} {p : Nat} {T : List Nat} {O : Nat → Prop} {cb : Nat → Bool} {Fin : Fr → World → Prop} {f0 : Fr}
theorem absorbA {n : NN} (hok : drawOk n l = true) (hpl : p ≤ l.length) : ∀ (rest pre : List Nat) (vs : Nat → Value) (w : World), eager l cb (pre ++ rest) = true → (∀ j, j ∈ pre ++ rest → j < p ∧ (hasDst l j = true ∨ cb j = true)) → PA P n l p T O cb Fin rest (dpF l vs pre.reverse ++ f0) w →
   (∀ i, i ∈ pre → cb i = false → RdOkA P n l T f0 pre vs w i) → ∃ pre' rest' vs', pre ++ rest = pre' ++ rest' ∧ (∀ i, i ∈ pre → i ∈ pre' ∧ vs' i = vs i) ∧ (∀ i, i ∈ pre' → i ∈ pre ∨ cb i = false) ∧ (∀ c r, rest' = c :: r → cb c = true) ∧
     PA P n l p T O cb Fin rest' (dpF l vs' pre'.reverse ++ f0) w ∧ ∀ i, i ∈ pre' → cb i = false → RdOkA P n l T f0 pre' vs' w i
 | [], pre, vs, w, _, _, h, hr => ⟨pre, [], vs, rfl, fun i hi => ⟨hi, rfl⟩, fun i hi => .inl hi, (fun c r h => by cases h), h, hr⟩
 | i :: r, pre, vs, w, he, hb, h, hr => by
   have h0 := h
   unfold PA at h
   obtain ⟨o, f1, h1, h2, h3, h4⟩ := h
   rcases h4 with ⟨hc, _⟩ | ⟨hc, v, h5, h6⟩
   · exact ⟨pre, i :: r, vs, rfl, fun i hi => ⟨hi, rfl⟩, fun i hi => .inl hi, (fun c r h => by cases h; exact hc), h0, hr⟩
   · have hni : i ∉ pre := fun hm => (cg he).2 i hm (by simp)
     have hlk := lM (f0 := f0) hok hpl (fun j hj => (hb j (by simp [hj])).1) h2 h3
     have hm : ∀ j, j ∈ pre → j ∈ pre ++ [i] ∧ setV vs i v j = vs j := fun j hj => ⟨by simp [hj], di vs v (fun e => hni (e ▸ hj))⟩
     have hnr : i ∉ pre.reverse := by simpa using hni
     obtain ⟨pre', rest', vs', k1, k2, k3, k4, k5, k6⟩ := absorbA hok hpl r (pre ++ [i]) (setV vs i v) w (by simpa using he) (by simpa using hb)
       (by rw [List.reverse_append, List.reverse_singleton, List.singleton_append, jF, dV, gx hnr]; exact h6)
       (fun j hj hcj => by
         rcases List.mem_append.1 hj with h | h
         · exact (hr j h hcj).mono h hm (Keep.refl _ _)
         · rw [List.mem_singleton] at h
           subst h
           refine ⟨o, f1, h1, hlk.mono hm, fun w2 hk2 => ?_⟩
           rw [dV]; exact h5 w2 hk2)
     refine ⟨pre', rest', vs', by simpa using k1, fun j hj => ?_, fun j hj => ?_, k4, k5, k6⟩
     · obtain ⟨q1, q2⟩ := k2 j (hm j hj).1
       exact ⟨q1, q2.trans (hm j hj).2⟩
     · rcases k3 j hj with h | h
       · rcases List.mem_append.1 h with h | h
         · exact .inl h
         · rw [List.mem_singleton] at h; subst h; exact .inr hc
       · exact .inr h
end
variable {fin : Exit → Act → World → Prop} {k : List KI} {f : Fr} {w : World}
def FinA (P : Program) (fin : Exit → Act → World → Prop) (n : NN) (k : List KI) (l : List Oper) (p s0 : Nat) (cs : List Nat) (fc : Fr) : List (Nat × TypeId × List Value) → List Nat → Fr → World → Prop
 | [], _, f, w => OW P fin n k l.toArray (l.drop p) f w
 | q :: r, seen, f, w => ∀ b, s0 ≤ b → b < w.heap.size → Bk w b q.2.1 q.2.2 → (∀ x, x ∈ seen → x ≠ b) → (∀ j, j ∈ cs → hasDst l j = true → ∀ v, fc.get (dstOf l j) = some v → ∀ x, x ∈ cblk v → x ≠ b) →
   FinA P fin n k l p s0 cs fc r (b :: seen) ((dstOf l q.1, .pointer (some ⟨b, 0, none⟩)) :: f) w
def flFr (l : List Oper) (bs : Nat → Nat) : List (Nat × TypeId × List Value) → Fr → Fr
 | [], f => f
 | q :: r, f => flFr l bs r ((dstOf l q.1, .pointer (some ⟨bs q.1, 0, none⟩)) :: f)
theorem FinA.use {l : List Oper} {p s0 : Nat} {cs : List Nat} {fc : Fr} {bs : Nat → Nat} : ∀ {fl : List (Nat × TypeId × List Value)} {seen : List Nat} {f : Fr} {w : World}, FinA P fin n k l p s0 cs fc fl seen f w →
   (∀ q, q ∈ fl → s0 ≤ bs q.1 ∧ bs q.1 < w.heap.size ∧ Bk w (bs q.1) q.2.1 q.2.2 ∧ (∀ j, j ∈ cs → hasDst l j = true → ∀ v, fc.get (dstOf l j) = some v → ∀ x, x ∈ cblk v → x ≠ bs q.1) ∧ (∀ x, x ∈ seen → x ≠ bs q.1)) →
   (fl.map (·.1)).Nodup → (∀ q q', q ∈ fl → q' ∈ fl → q.1 ≠ q'.1 → bs q.1 ≠ bs q'.1) → OW P fin n k l.toArray (l.drop p) (flFr l bs fl f) w
 | [], seen, f, w, h, _, _, _ => h
 | q :: r, seen, f, w, h, hq, hnd, hd => by
   obtain ⟨h1, h2, h3, h4, h5⟩ := hq q (by simp)
   have hnd' := List.nodup_cons.1 hnd
   refine FinA.use (fl := r) (f := (dstOf l q.1, .pointer (some ⟨bs q.1, 0, none⟩)) :: f) (h (bs q.1) h1 h2 h3 h5 h4) (fun q' hq' => ?_) hnd'.2 (fun a b ha hb => hd a b (by simp [ha]) (by simp [hb]))
   obtain ⟨g1, g2, g3, g4, g5⟩ := hq q' (by simp [hq'])
   refine ⟨g1, g2, g3, g4, fun x hx => ?_⟩
   rcases List.mem_cons.1 hx with rfl | hx
   · exact hd q q' (by simp) (by simp [hq']) (fun e => hnd'.1 (List.mem_map.2 ⟨q', hq', e.symm⟩))
   · exact g5 x hx
theorem nd_eq {q q' : Nat × TypeId × List Value} : ∀ {fl : List (Nat × TypeId × List Value)}, (fl.map (·.1)).Nodup → q ∈ fl → q' ∈ fl → q.1 = q'.1 → q' = q
 | [], _, h, _, _ => by cases h
 | a :: r, hn, h1, h2, he => by
   have hn' := List.nodup_cons.1 hn
   rcases List.mem_cons.1 h1 with e1 | h1 <;> rcases List.mem_cons.1 h2 with e2 | h2
   · rw [e1, e2]
   · exact absurd (List.mem_map.2 ⟨q', h2, by rw [← he, e1]⟩) hn'.1
   · exact absurd (List.mem_map.2 ⟨q, h1, by rw [he, e2]⟩) hn'.1
   · exact nd_eq hn'.2 h1 h2 he
theorem jl {l : List Oper} {bs : Nat → Nat} {a : Act} : ∀ {fl : List (Nat × TypeId × List Value)} {f : Fr}, Kn n f a → (∀ q, q ∈ fl → a.tmps.getD (dstOf l q.1) undef = .pointer (some ⟨bs q.1, 0, none⟩)) → Kn n (flFr l bs fl f) a
 | [], f, h, _ => h
 | q :: r, f, h, hq => by
   refine jl (fl := r) ?_ (fun q' hq' => hq q' (by simp [hq']))
   have := Kn.app (n := n) (g := [(dstOf l q.1, .pointer (some ⟨bs q.1, 0, none⟩))]) (f := f) (a := a) (fun p hp => by
     rw [List.mem_singleton] at hp; subst hp; exact hq q (by simp)) h
   exact this
def FlOk (P : Program) (l : List Oper) (q : Nat × TypeId × List Value) : Prop := ∃ d ty pos aft s by_, l[q.1]? = some ⟨some d, .alloc q.2.1, ty, pos, aft, none⟩ ∧ Ty P q.2.1 q.2.2 s by_
def setB (bs : Nat → Nat) (i b : Nat) : Nat → Nat := fun j => bif Nat.beq j i then b else bs j
theorem dj (bs : Nat → Nat) (i b : Nat) : setB bs i b i = b := by simp [setB]
theorem ec (bs : Nat → Nat) {i j : Nat} (b : Nat) (h : j ≠ i) : setB bs i b j = bs j := by
 unfold setB
 cases hb : Nat.beq j i with
 | false => rfl
 | true => exact absurd (Nat.eq_of_beq_eq_true hb) h
theorem cR {id : Nat} {l : List Oper} (p : Nat) (plan : List Nat) (cs : List Nat) (T : List Nat) (fl : List (Nat × TypeId × List Value)) (hm : P.follows .mixedOrders = true) (f0 : Fr) (hf : Fr.sub f0 f) (hok : planOkA n l p plan (fun i => cs.contains i) (fl.map (·.1)) = true) (hnd : (fl.map (·.1)).Nodup) (hcs : cs.all (fun i => plan.contains i) = true) (hfl : ∀ q, q ∈ fl → FlOk P l q) (hT : ∀ x, x ∈ T → x < w.heap.size) (hfree0 : freeOk (l.take p) f0 = true)
    (h : ∀ w1, Keep [] w w1 → PA P n l p T (fun x => x < w.heap.size ∨ fl = []) (fun i => cs.contains i) (fun f' w' => ∀ w2, Keep [] w' w2 → FinA P fin n k l p w.heap.size cs f' fl [] f' w2) plan f0 w1) :
    TW P fin n (.c (.region id l.toArray true) :: k) f w := by
  intro a ha
  simp only [KQ]
  have ha0 := ha.sub hf
  simp only [planOkA, Bool.and_eq_true] at hok
  obtain ⟨⟨⟨⟨⟨hdr, ht⟩, hall⟩, hcov⟩, heag⟩, hfla⟩ := hok
  have hfl1 : ∀ q, q ∈ fl → q.1 < p ∧ q.1 ∉ plan := by
    intro q hq
    have := List.all_eq_true.1 hfla q.1 (List.mem_map.2 ⟨q, hq, rfl⟩)
    simp only [Bool.and_eq_true, Bool.not_eq_true'] at this
    exact ⟨bD this.1, by simpa using this.2⟩
  have hcsp : ∀ j, j ∈ cs → j ∈ plan := by
    intro j hj
    have := List.all_eq_true.1 hcs j hj
    simpa using this
  have hpl : p ≤ l.length := by simp only [dZ, Bool.and_eq_true] at ht; exact Nat.le_of_ble_eq_true ht.1.1
  have hplan : ∀ j, j ∈ plan → j < p ∧ (hasDst l j = true ∨ cs.contains j = true) := by
    intro j hj
    have := List.all_eq_true.1 hall j hj
    simp only [Bool.and_eq_true, Bool.or_eq_true] at this
    exact ⟨bD this.1, this.2⟩
  have hmem : ∀ j, j < p → j ∈ plan ∨ ∃ q, q ∈ fl ∧ q.1 = j := by
    intro j hj
    have := List.all_eq_true.1 hcov j (List.mem_range.2 hj)
    simp only [Bool.or_eq_true, List.contains_iff_mem, List.mem_map] at this
    exact this
  have hgrow : ∀ f' w1 w2, Keep [] w1 w2 → (∀ w3, Keep [] w1 w3 → FinA P fin n k l p w.heap.size cs f' fl [] f' w3) → (∀ w3, Keep [] w2 w3 → FinA P fin n k l p w.heap.size cs f' fl [] f' w3) := fun f' w1 w2 k1 h w3 k3 => h w3 (k1.trans k3)
  have hfree : ∀ i, i < p → hasDst l i = true → f0.get (dstOf l i) = none := by
    intro i hi hd
    have e1 : dstOf (l.take p) i = dstOf l i := by unfold dstOf; rw [List.getElem?_take, if_pos hi]
    have e2 : hasDst (l.take p) i = hasDst l i := by unfold hasDst; rw [List.getElem?_take, if_pos hi]
    rw [← e1]
    exact cD (l := l.take p) (by rw [List.length_take]; omega) (by rw [e2]; exact hd) hfree0
  have hend : ∀ (listed : Array Bool) (a : Act) (w' : World), Kn n f0 a → (∀ i, i < p → listed.getD i false = true) → w.heap.size ≤ w'.heap.size →
      (∃ pre rest vs, ∃ bs : Nat → Nat, plan = pre ++ rest ∧ (∀ c r, rest = c :: r → cs.contains c = true) ∧ PA P n l p T (fun x => x < w.heap.size ∨ fl = []) (fun i => cs.contains i) (fun f' w' => ∀ w2, Keep [] w' w2 → FinA P fin n k l p w.heap.size cs f' fl [] f' w2) rest (dpF l vs pre.reverse ++ f0) w' ∧
        (∀ i, i ∈ pre → cs.contains i = false → RdOkA P n l T f0 pre vs w' i) ∧ (∀ i, i ∈ pre → cs.contains i = true → listed.getD i false = true) ∧ (∀ i, listed.getD i false = true → (∃ q, q ∈ fl ∧ q.1 = i) ∨ i ∈ pre ∧ (hasDst l i = true → a.tmps.getD (dstOf l i) undef = vs i)) ∧
        (∀ q, q ∈ fl → listed.getD q.1 false = true → a.tmps.getD (dstOf l q.1) undef = .pointer (some ⟨bs q.1, 0, none⟩) ∧ w.heap.size ≤ bs q.1 ∧ bs q.1 < w'.heap.size ∧ Bk w' (bs q.1) q.2.1 q.2.2 ∧ ∀ j, j ∈ pre → cs.contains j = true → ∀ x, x ∈ cblk (vs j) → x ≠ bs q.1) ∧
        (∀ j, j ∈ pre → cs.contains j = true → ∀ x, x ∈ cblk (vs j) → x < w'.heap.size) ∧
        (∀ q q', q ∈ fl → q' ∈ fl → listed.getD q.1 false = true → listed.getD q'.1 false = true → q.1 ≠ q'.1 → bs q.1 ≠ bs q'.1)) →
      wpList P l.toArray (KQ P fin k) (l.drop p) a w' := by
    intro listed a w' hk hlist hsz hst
    obtain ⟨pre, rest, vs, bs, h1, h2, h3, h4, h5, h6, h7, h8, h9⟩ := hst
    have hnf : ∀ c, c ∈ plan → ¬ ∃ q, q ∈ fl ∧ q.1 = c := fun c hc ⟨q, hq, he⟩ => (hfl1 q hq).2 (he ▸ hc)
    have hrest : rest = [] := by
      cases rest with
      | nil => rfl
      | cons c r =>
        exfalso
        have hcp : c ∈ plan := by rw [h1]; simp
        have hc := hplan c hcp
        rcases h6 c (hlist c hc.1) with h | h
        · exact hnf c hcp h
        · exact (cg (pre := pre) (h1 ▸ heag)).2 c h.1 (by simp)
    subst hrest
    have hF := h3
    unfold PA at hF
    have hpre : ∀ j, j ∈ pre → j ∈ plan := fun j hj => by rw [h1]; simp [hj]
    have hkF : Kn n (dpF l vs pre.reverse ++ f0) a := Kn.app (by
      intro q hq
      obtain ⟨j, hj, hjd, rfl⟩ := iV hq
      have hj' : j ∈ pre := by simpa using hj
      rcases h6 j (hlist j (hplan j (hpre j hj')).1) with h | h
      · exact absurd h (hnf j (hpre j hj'))
      · exact h.2 hjd) hk
    refine FinA.use (bs := bs) (hF w' (Keep.refl _ _)) (fun q hq => ?_) hnd (fun q q' hq hq' hne => h9 q q' hq hq' (hlist _ (hfl1 q hq).1) (hlist _ (hfl1 q' hq').1) hne) a (jl hkF (fun q hq => (h7 q hq (hlist _ (hfl1 q hq).1)).1))
    obtain ⟨_, g2, g3, g4, g5⟩ := h7 q hq (hlist _ (hfl1 q hq).1)
    refine ⟨g2, g3, g4, fun j hj hjd v hv x hx => ?_, fun x hx => by cases hx⟩
    have hjp := hcsp j hj
    rcases iY hv with ⟨j', hj', e0, e1, e2⟩ | e1
    · have hj2 : j' ∈ pre := by simpa using hj'
      have : j' = j := dO hdr (Nat.lt_of_lt_of_le (hplan j' (hpre j' hj2)).1 hpl) (Nat.lt_of_lt_of_le (hplan j hjp).1 hpl) e0 hjd e1
      subst this; subst e2
      exact g5 j' hj2 (by simpa using hj) x hx
    · rw [hfree j (hplan j hjp).1 hjd] at e1; cases e1
  refine wp_region_any hm ?_
  have key : ∀ (fuel : Nat) (listed : Array Bool) (a : Act) (w' : World), listed.size = l.length → left l.length listed ≤ fuel → Kn n f0 a → (∀ i, p ≤ i → i < l.length → listed.getD i false = false) → (∀ i, listed.getD i false = true → i < p) →
      (∀ i j, listed.getD i false = true → depB l i j = true → listed.getD j false = true) → w.heap.size ≤ w'.heap.size →
      (∃ pre rest vs, ∃ bs : Nat → Nat, plan = pre ++ rest ∧ (∀ c r, rest = c :: r → cs.contains c = true) ∧ PA P n l p T (fun x => x < w.heap.size ∨ fl = []) (fun i => cs.contains i) (fun f' w' => ∀ w2, Keep [] w' w2 → FinA P fin n k l p w.heap.size cs f' fl [] f' w2) rest (dpF l vs pre.reverse ++ f0) w' ∧
        (∀ i, i ∈ pre → cs.contains i = false → RdOkA P n l T f0 pre vs w' i) ∧ (∀ i, i ∈ pre → cs.contains i = true → listed.getD i false = true) ∧ (∀ i, listed.getD i false = true → (∃ q, q ∈ fl ∧ q.1 = i) ∨ i ∈ pre ∧ (hasDst l i = true → a.tmps.getD (dstOf l i) undef = vs i)) ∧
        (∀ q, q ∈ fl → listed.getD q.1 false = true → a.tmps.getD (dstOf l q.1) undef = .pointer (some ⟨bs q.1, 0, none⟩) ∧ w.heap.size ≤ bs q.1 ∧ bs q.1 < w'.heap.size ∧ Bk w' (bs q.1) q.2.1 q.2.2 ∧ ∀ j, j ∈ pre → cs.contains j = true → ∀ x, x ∈ cblk (vs j) → x ≠ bs q.1) ∧
        (∀ j, j ∈ pre → cs.contains j = true → ∀ x, x ∈ cblk (vs j) → x < w'.heap.size) ∧
        (∀ q q', q ∈ fl → q' ∈ fl → listed.getD q.1 false = true → listed.getD q'.1 false = true → q.1 ≠ q'.1 → bs q.1 ≠ bs q'.1)) →
      wpAny P .any l.toArray (KQ P fin k) fuel listed a w' := by
    intro fuel
    induction fuel with
    | zero =>
      intro listed a w' hs hle hk hun hlp hcl hsz hst
      have hlist : ∀ i, i < l.length → listed.getD i false = true := by
        intro i hi
        cases hc : listed.getD i false with
        | true => rfl
        | false =>
          exfalso
          have := cm hi hs (by rw [bP hs hi true false]; exact hc)
          omega
      have hpe : p = l.length := by
        rcases Nat.lt_or_ge p l.length with h1 | h1
        · have := hun p (Nat.le_refl _) h1; rw [hlist p h1] at this; cases this
        · omega
      refine eC hdr ht 0 p 0 listed a w' (by omega) hpl (Nat.le_refl _) (Nat.le_refl _) hs (fun i hi => by rw [hlist i hi]; simp; omega) ?_
      exact hend listed a w' hk (fun i hi => hlist i (by omega)) hsz hst
    | succ fuel ih =>
      intro listed a w' hs hle hk hun hlp hcl hsz hst
      by_cases hfull : ∀ i, i < p → listed.getD i false = true
      · refine eC hdr ht (l.length - p) p (fuel + 1) listed a w' rfl hpl (Nat.le_refl _) ?_ hs (fun i hi => ?_) (hend listed a w' hk hfull hsz hst)
        · refine Nat.le_trans ?_ hle
          unfold left
          have e1 : l.length - p = ((List.range' p (l.length - p)).countP fun i => !listed.getD i true) := by
            rw [List.countP_eq_length.2 (fun i hi => ?_)]
            · simp
            · rw [List.mem_range'_1] at hi
              rw [bP hs (by omega) true false, hun i (by omega) (by omega)]; rfl
          rw [e1]
          have e2 : List.range l.length = List.range p ++ List.range' p (l.length - p) := by
            have e3 := List.range'_append_1 (s := 0) (m := p) (n := l.length - p)
            rw [Nat.zero_add] at e3
            rw [List.range_eq_range', List.range_eq_range', e3]; congr 1; omega
          rw [e2, List.countP_append]; omega
        · by_cases hip : i < p
          · rw [hfull i hip]; simp [hip]
          · rw [hun i (by omega) hi]; simp [hip]
      · obtain ⟨pre, rest, vs, bs, h1, h2, h3, h4, h5, h6, h7, h8, h9⟩ := hst
        have hnf : ∀ c, c ∈ plan → ¬ ∃ q, q ∈ fl ∧ q.1 = c := fun c hc ⟨q, hq, he⟩ => (hfl1 q hq).2 (he ▸ hc)
        obtain ⟨q, hq⟩ := Classical.not_forall.1 hfull
        obtain ⟨hq1, hq2⟩ := Classical.not_imp.1 hq
        have hq2 : listed.getD q false = false := eq_false_of_ne_true hq2
        refine ⟨fun hr => (by
          have := dn hdr rfl hs hr q (by omega)
          rw [hq2] at this; cases this), fun i hi => ?_⟩
        obtain ⟨h0, o, ho, hedge⟩ := mem_ready.1 hi
        have ho' : l[i]? = some o := by simpa using ho
        have hlt : i < l.length := (List.getElem?_eq_some_iff.1 ho').1
        have hdepl : ∀ j, depB l i j = true → listed.getD j false = true := by
          intro j hj
          simp only [depB, ho'] at hj
          obtain ⟨e, he, h7⟩ := List.any_eq_true.1 hj
          simp only [Bool.and_eq_true, beq_iff_eq] at h7
          have := hedge e (Array.mem_toList_iff.1 he) h7.2
          rwa [h7.1] at this
        have hip : i < p := by
          rcases Nat.lt_or_ge i p with h7 | h7
          · exact h7
          · exfalso
            rcases Nat.lt_or_ge p i with h8 | h8
            · have := hdepl _ (eb ht hlt h8)
              rw [hun (i - 1) (by omega) (by omega)] at this; cases this
            · have hpi : i = p := by omega
              have := fm (S := fun j => listed.getD j false = true) ht (by omega) (fun m j hm hd => hm.elim (fun e => hdepl j (by rw [hpi, ← e]; exact hd)) (fun hl => hcl m j hl hd)) _ q hq1 rfl
              rw [hq2] at this; cases this
        have hil : listed.getD i false = false := by rw [bP hs hlt false true]; exact h0
        have hidn : ∀ d, o.dst = some d → hasDst l i = true ∧ dstOf l i = d ∧ d < n := by
          intro d hd
          have hdd : dstOf l i = d := by simp [dstOf, ho', hd]
          refine ⟨by simp [hasDst, ho', hd], hdd, ?_⟩
          have h8 := List.all_eq_true.1 hdr i (List.mem_range.2 hlt)
          simp only [ho', Bool.and_eq_true] at h8
          rw [hdd] at h8
          exact bD h8.1.1
        have hids : hasDst l i = true → ∃ d, o.dst = some d := by
          intro hid
          unfold hasDst at hid; rw [ho'] at hid
          cases hd : o.dst with
          | none => rw [Option.bind_some, hd] at hid; cases hid
          | some d => exact ⟨d, rfl⟩
        have hleft := cm hlt hs h0
        have hun' : ∀ j, p ≤ j → j < l.length → (listed.setIfInBounds i true).getD j false = false := fun j h1 h2 => by rw [getD_set_ne false (by omega)]; exact hun j h1 h2
        have hlp' : ∀ j, (listed.setIfInBounds i true).getD j false = true → j < p := by
          intro j hj
          by_cases hij : i = j
          · subst hij; exact hip
          · rw [getD_set_ne false hij] at hj; exact hlp j hj
        have hcl' : ∀ m j, (listed.setIfInBounds i true).getD m false = true → depB l m j = true → (listed.setIfInBounds i true).getD j false = true := by
          intro m j hm hd
          have hj : listed.getD j false = true := by
            by_cases him : i = m
            · exact hdepl j (him ▸ hd)
            · rw [getD_set_ne false him] at hm; exact hcl m j hm hd
          by_cases hij : i = j
          · subst hij; rw [hil] at hj; cases hj
          · rw [getD_set_ne false hij]; exact hj
        have hput : ∀ v, hasDst l i = true → (a.put o.dst v).tmps.getD (dstOf l i) undef = v := by
          intro v hid
          obtain ⟨d, hod⟩ := hids hid
          obtain ⟨_, hdd, hdn⟩ := hidn d hod
          rw [hdd, hod]; simp [Act.put, Array.getD_eq_getD_getElem?, hk.size, hdn]
        have hputo : ∀ v j, j < p → hasDst l j = true → i ≠ j → (a.put o.dst v).tmps.getD (dstOf l j) undef = a.tmps.getD (dstOf l j) undef := by
          intro v j hj hdj hij
          cases hod : o.dst with
          | none => rfl
          | some d =>
            obtain ⟨hid, hdd, hdn⟩ := hidn d hod
            have hne : d ≠ dstOf l j := fun e => hij (dO hdr hlt (by omega) hid hdj (by rw [hdd, e]))
            simp only [Act.put, Array.getD_eq_getD_getElem?]; rw [Array.getElem?_setIfInBounds_ne hne]
        have hkput : ∀ v, Kn n f0 (a.put o.dst v) := by
          intro v
          cases hod : o.dst with
          | none => exact hk
          | some d =>
            obtain ⟨hid, hdd, hdn⟩ := hidn d hod
            exact hk.putOther (by rw [← hdd]; exact hfree i hip hid) v
        have hpre : ∀ j, j ∈ pre → j ∈ plan := fun j hj => by rw [h1]; simp [hj]
        have hpredep : ∀ j, depB l i j = true → j ∈ pre → hasDst l j = true → a.tmps.getD (dstOf l j) undef = vs j := fun j hj hjp hjd => (h6 j (hdepl j hj)).elim (fun h => absurd h (hnf j (hpre j hjp))) (fun h => h.2 hjd)
        have hfd : ∀ q, q ∈ fl → hasDst l q.1 = true := by
          intro q hq
          obtain ⟨d, ty, pos, aft, s, by_, hg, _⟩ := hfl q hq
          unfold hasDst; rw [hg]; rfl
        have step : ∀ f1, Kn n f1 a → ∀ R : Value → World → Prop, PStep P n l.toArray o f1 w' R → (∀ v w2, R v w2 → wpAny P .any l.toArray (KQ P fin k) fuel (listed.setIfInBounds i true) (a.put o.dst v) w2) → wpOp P l.toArray (KQ P fin k) i (wpAny P .any l.toArray (KQ P fin k) fuel (listed.setIfInBounds i true)) a w' := by
          intro f1 hkf R hp hn
          obtain ⟨p1, p2⟩ := hp a hkf (wpAny P .any l.toArray (KQ P fin k) fuel (listed.setIfInBounds i true)) (KQ P fin k) hn
          unfold wpOp
          rw [ho]
          simp only
          by_cases hw : Region.wanted o (yielded l.toArray a.tmps) = true
          · rw [if_pos hw]; exact .inl (p1 hw)
          · rw [if_neg hw]; exact p2 (eq_false_of_ne_true hw)
        rcases hmem i hip with hpl1 | ⟨q, hqf, hqi⟩
        · have hpm := hpl1
          rw [h1] at hpm
          have hifl : ∀ q, q ∈ fl → i ≠ q.1 := fun q hq e => hnf i hpl1 ⟨q, hq, e.symm⟩
          rcases List.mem_append.1 hpm with hpre1 | hrs
          · have hcb : cs.contains i = false := by
              cases hc : cs.contains i with
              | false => rfl
              | true => have := h5 i hpre1 hc; rw [hil] at this; cases this
            obtain ⟨o2, f1, g1, g2, g3⟩ := h4 i hpre1 hcb
            rw [ho'] at g1
            simp only [Option.some.injEq] at g1
            subst g1
            refine step f1 (lO hk g2 hpredep) _ (g3 w' (Keep.refl _ _)) ?_
            rintro v w2 ⟨rfl, rfl⟩
            refine ih _ _ _ (by simpa using hs) (by omega) (hkput _) hun' hlp' hcl' hsz ⟨pre, rest, vs, bs, h1, h2, h3, h4, fun j hj hc => ?_, fun j hj => ?_, fun q hq hlq => ?_, h8, fun q q' hq hq' hl1 hl2 => ?_⟩
            · by_cases hij : i = j
              · subst hij; rw [hcb] at hc; cases hc
              · rw [getD_set_ne false hij]; exact h5 j hj hc
            · by_cases hij : i = j
              · subst hij; exact .inr ⟨hpre1, hput _⟩
              · rw [getD_set_ne false hij] at hj
                rcases h6 j hj with h | ⟨m1, m2⟩
                · exact .inl h
                · have hpj := hplan j (hpre j m1)
                  exact .inr ⟨m1, fun hjd => by rw [hputo _ j hpj.1 hjd hij]; exact m2 hjd⟩
            · rw [getD_set_ne false (hifl q hq)] at hlq
              obtain ⟨m1, m2⟩ := h7 q hq hlq
              exact ⟨by rw [hputo _ q.1 (hfl1 q hq).1 (hfd q hq) (hifl q hq)]; exact m1, m2⟩
            · rw [getD_set_ne false (hifl q hq)] at hl1
              rw [getD_set_ne false (hifl q' hq')] at hl2
              exact h9 q q' hq hq' hl1 hl2
          · cases rest with
            | nil => cases hrs
            | cons c r =>
              have hcc := h2 c r rfl
              rw [h1] at heag
              obtain ⟨he1, he2⟩ := cg heag
              rcases List.mem_cons.1 hrs with hic | hir
              · subst hic
                have h30 := h3
                unfold PA at h30
                obtain ⟨o2, f1, g1, g2, g3, g4⟩ := h30
                rw [ho'] at g1
                simp only [Option.some.injEq] at g1
                subst g1
                rcases g4 with ⟨_, g4⟩ | ⟨g4, _⟩
                · have hlk := lM (f0 := f0) hdr hpl (fun j hj => (hplan j (hpre j hj)).1) g2 g3
                  refine step f1 (lO hk hlk hpredep) _ (g4 w' (Keep.refl _ _)) ?_
                  rintro v w2 ⟨hkw, hcv, hpw⟩
                  have hni : i ∉ pre := fun hm => he2 i hm (by simp)
                  have hnr : i ∉ pre.reverse := by simpa using hni
                  have hmm : ∀ j, j ∈ pre → j ∈ pre ++ [i] ∧ setV vs i v j = vs j := fun j hj => ⟨by simp [hj], di vs v (fun e => hni (e ▸ hj))⟩
                  obtain ⟨pre', rest', vs', k1, k2, k3, k4, k5, k6⟩ := absorbA (f0 := f0) (T := T) (O := (fun x => x < w.heap.size ∨ fl = [])) (cb := fun i => cs.contains i) hdr hpl r (pre ++ [i]) (setV vs i v) w2 (by rw [List.append_assoc, List.singleton_append]; exact heag) (by rw [List.append_assoc, List.singleton_append, ← h1]; exact hplan)
                    (by rw [List.reverse_append, List.reverse_singleton, List.singleton_append, jF, dV, gx hnr]; exact hpw)
                    (fun j hj hcj => by
                      rcases List.mem_append.1 hj with h | h
                      · exact (h4 j h hcj).mono h hmm hkw
                      · rw [List.mem_singleton] at h
                        subst h; rw [hcc] at hcj; cases hcj)
                  have hsame : ∀ j, j ∈ pre → j ∈ pre' ∧ vs' j = vs j := fun j hj => ⟨(k2 j (hmm j hj).1).1, ((k2 j (hmm j hj).1).2).trans (hmm j hj).2⟩
                  have hci := k2 i (by simp)
                  rw [dV] at hci
                  have hcall : ∀ j, j ∈ pre' → cs.contains j = true → j ∈ pre ∧ vs' j = vs j ∨ j = i := by
                    intro j hj hc
                    rcases k3 j hj with h | h
                    · rcases List.mem_append.1 h with h | h
                      · exact .inl ⟨h, (hsame j h).2⟩
                      · rw [List.mem_singleton] at h; exact .inr h
                    · rw [hc] at h; cases h
                  refine ih _ _ _ (by simpa using hs) (by omega) (hkput _) hun' hlp' hcl' (Nat.le_trans hsz hkw.size) ⟨pre', rest', vs', bs, by rw [← k1, h1]; simp, k4, k5, k6, fun j hj hc => ?_, fun j hj => ?_, fun q hq hlq => ?_, fun j hj hc x hx => ?_, fun q q' hq hq' hl1 hl2 => ?_⟩
                  · by_cases hij : i = j
                    · subst hij
                      rw [Array.getD_eq_getD_getElem?]; simp [hs, hlt]
                    · rw [getD_set_ne false hij]
                      rcases hcall j hj hc with h | h
                      · exact h5 j h.1 hc
                      · exact absurd h.symm hij
                  · by_cases hij : i = j
                    · subst hij; exact .inr ⟨hci.1, fun hid => by rw [hput _ hid, hci.2]⟩
                    · rw [getD_set_ne false hij] at hj
                      rcases h6 j hj with h | ⟨m1, m2⟩
                      · exact .inl h
                      · have hpj := hplan j (hpre j m1)
                        exact .inr ⟨(hsame j m1).1, fun hjd => by rw [hputo _ j hpj.1 hjd hij, (hsame j m1).2]; exact m2 hjd⟩
                  · rw [getD_set_ne false (hifl q hq)] at hlq
                    obtain ⟨m1, m2, m3, m4, m5⟩ := h7 q hq hlq
                    refine ⟨by rw [hputo _ q.1 (hfl1 q hq).1 (hfd q hq) (hifl q hq)]; exact m1, m2, Nat.lt_of_lt_of_le m3 hkw.size, m4.keep hkw (fun hm => by have := hT _ hm; omega), fun j hj hc x hx => ?_⟩
                    rcases hcall j hj hc with ⟨h, e⟩ | h
                    · rw [e] at hx; exact m5 j h hc x hx
                    · subst h
                      rw [hci.2] at hx
                      have := (hcv x hx).1
                      intro e
                      rcases this with (h3 | h3) | h3
                      · omega
                      · rw [h3] at hq; cases hq
                      · omega
                  · rcases hcall j hj hc with ⟨h, e⟩ | h
                    · rw [e] at hx; exact Nat.lt_of_lt_of_le (h8 j h hc x hx) hkw.size
                    · subst h
                      rw [hci.2] at hx
                      exact (hcv x hx).2
                  · rw [getD_set_ne false (hifl q hq)] at hl1
                    rw [getD_set_ne false (hifl q' hq')] at hl2
                    exact h9 q q' hq hq' hl1 hl2
                · rw [hcc] at g4; cases g4
              · exfalso
                simp only [eager, Bool.and_eq_true] at he1
                have h7 := he1.1.2
                rw [hcc, Bool.not_true, Bool.false_or] at h7
                have h8 := List.all_eq_true.1 h7 i hir
                obtain ⟨j, hj, hdj⟩ := List.any_eq_true.1 h8
                have hjp : j ∈ plan := by rw [h1]; exact List.mem_append_right _ hj
                rcases h6 j (hdepl j hdj) with h | h
                · exact hnf j hjp h
                · exact he2 j h.1 hj
        · subst hqi
          obtain ⟨d', ty, pos, aft, s, by_, hg, hTy⟩ := hfl q hqf
          rw [hg] at ho'
          simp only [Option.some.injEq] at ho'
          have hnp : q.1 ∉ pre := fun hm => (hfl1 q hqf).2 (hpre _ hm)
          refine step [] ⟨hk.size, hk.defers, fun t v h => by cases h⟩ (fun v' w2 => ∃ b, v' = .pointer (some ⟨b, 0, none⟩) ∧ b = w'.heap.size ∧ Bk w2 b q.2.1 q.2.2 ∧ Keep [] w' w2 ∧ w2.heap.size = w'.heap.size + 1) ?_ ?_
          · subst ho'
            intro a1 ha1 K Q hK
            refine ⟨fun _ => cI (n := n) (f := []) hTy a1 ha1 _ _ _ _ K Q hK, fun h => by simp [Region.wanted] at h⟩
          · rintro v w2 ⟨b, rfl, rfl, hb, hkb, hsb⟩
            have hqne : ∀ q', q' ∈ fl → q'.1 ≠ q.1 → q.1 ≠ q'.1 := fun q' _ h e => h e.symm
            refine ih _ _ _ (by simpa using hs) (by omega) (hkput _) hun' hlp' hcl' (by omega) ⟨pre, rest, vs, setB bs q.1 w'.heap.size, h1, h2, PA.grow hgrow _ _ _ _ hkb h3, fun j hj hc => (h4 j hj hc).mono hj (fun j hj => ⟨hj, rfl⟩) hkb.weak, fun j hj hc => ?_, fun j hj => ?_, fun q' hq' hlq => ?_, fun j hj hc x hx => by have := h8 j hj hc x hx; omega, fun q1 q2 hq1 hq2 hl1 hl2 hne => ?_⟩
            · rw [getD_set_ne false (fun e => hnp (by rw [e]; exact hj))]; exact h5 j hj hc
            · by_cases hij : q.1 = j
              · exact .inl ⟨q, hqf, hij⟩
              · rw [getD_set_ne false hij] at hj
                rcases h6 j hj with h | ⟨m1, m2⟩
                · exact .inl h
                · have hpj := hplan j (hpre j m1)
                  exact .inr ⟨m1, fun hjd => by rw [hputo _ j hpj.1 hjd hij]; exact m2 hjd⟩
            · by_cases hqq : q.1 = q'.1
              · have hqe : q' = q := nd_eq hnd hqf hq' hqq
                subst hqe
                refine ⟨by rw [hput _ (hfd q' hqf), dj], by rw [dj]; omega, by rw [dj]; omega, by rw [dj]; exact hb, fun j hj hc x hx => ?_⟩
                rw [dj]
                have := h8 j hj hc x hx
                omega
              · rw [getD_set_ne false hqq] at hlq
                obtain ⟨m1, m2, m3, m4, m5⟩ := h7 q' hq' hlq
                rw [ec bs _ (Ne.symm hqq)]
                exact ⟨by rw [hputo _ q'.1 (hfl1 q' hq').1 (hfd q' hq') hqq]; exact m1, m2, by omega, m4.lh hkb, m5⟩
            · by_cases e1 : q.1 = q1.1
              · have e2 : q.1 ≠ q2.1 := fun e => hne (e1.symm.trans e)
                rw [getD_set_ne false e2] at hl2
                rw [← e1, dj, ec bs _ (Ne.symm e2)]
                have := (h7 q2 hq2 hl2).2.2.1
                omega
              · rw [getD_set_ne false e1] at hl1
                rw [ec bs _ (Ne.symm e1)]
                by_cases e2 : q.1 = q2.1
                · rw [← e2, dj]
                  have := (h7 q1 hq1 hl1).2.2.1
                  omega
                · rw [getD_set_ne false e2] at hl2
                  rw [ec bs _ (Ne.symm e2)]
                  exact h9 q1 q2 hq1 hq2 hl1 hl2 hne
  obtain ⟨pre', rest', vs', k1, k2, k3, k4, k5, k6⟩ := absorbA (f0 := f0) (T := T) (O := (fun x => x < w.heap.size ∨ fl = [])) (cb := fun i => cs.contains i) hdr hpl plan [] (fun _ => undef) _ heag hplan (h _ (bp w)) (fun i hi => by cases hi)
  have hemp : ∀ i, ¬ (Array.replicate l.toArray.size false).getD i false = true := by
    intro i hi
    rw [Array.getD_eq_getD_getElem?] at hi
    rcases Nat.lt_or_ge i l.toArray.size with h' | h'
    · rw [Array.getElem?_eq_getElem (by simpa using h')] at hi; simp at hi
    · rw [Array.getElem?_eq_none (by simpa using h')] at hi; simp at hi
  refine key _ _ a _ (by simp) ?_ ha0 ?_ (fun i hi => absurd hi (hemp i)) (fun i _ hi => absurd hi (hemp i)) (Nat.le_refl _) ⟨pre', rest', vs', fun _ => 0, k1, k4, k5, k6, fun i hi hc => ?_, fun i hi => absurd hi (hemp i), fun q _ hq => absurd hq (hemp _), fun j hj hc => ?_, fun q q' _ _ hq => absurd hq (hemp _)⟩
  · unfold left
    have := List.countP_le_length (p := fun i => !(Array.replicate l.toArray.size false).getD i true) (l := List.range l.length)
    simpa using this
  · intro i _ hi
    rw [Array.getD_eq_getD_getElem?, Array.getElem?_eq_getElem (by simpa using hi)]; simp
  · rcases k3 i hi with h | h
    · cases h
    · rw [hc] at h; cases h
  · rcases k3 j hj with h | h
    · cases h
    · rw [hc] at h; cases h
end
end Go.Eng
