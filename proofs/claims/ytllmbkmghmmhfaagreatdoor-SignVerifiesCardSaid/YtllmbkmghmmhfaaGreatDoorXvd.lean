/- Contracts and laws, part 4 of 6: what each function of the program and of the reference computes, shown once. -/
import Derived.Shelf.Spec.BitsCarry
import Derived.Test.YtllmbkmghmmhfaaGreatDoorXvc
set_option maxRecDepth 100000
set_option maxHeartbeats 4000000
set_option linter.unusedVariables false
set_option linter.unusedSimpArgs false
namespace Go.Fld
open Go Go.Eng Go.Ed Go.Byt
theorem og {f : Nat → Int} (hf : Wd f) {i : Nat} (hi : i < 72) : f (i / 8) / 2 ^ (8 * ((i : Int) % 8)).toNat % 256 = vW f 9 / 256 ^ i % 256 := by
 have e8 : (8 * ((i : Int) % 8)).toNat = 8 * (i % 8) := by omega
 rw [e8, ← gu]
 have e : (256 : Int) ^ i = 18446744073709551616 ^ (i / 8) * 256 ^ (i % 8) := by
   rw [show (18446744073709551616 : Int) = 256 ^ 8 by decide, ← Int.pow_mul, ← Int.pow_add]; congr 1; omega
 have hs := jB f (i / 8) (9 - i / 8)
 rw [show i / 8 + (9 - i / 8) = 9 by omega] at hs
 have hb := i5 (f := f) (n := i / 8) (fun j hj => hf j (by omega))
 have hw := powW (i / 8)
 have hd : vW f 9 / 18446744073709551616 ^ (i / 8) = vW (fun j => f (i / 8 + j)) (9 - i / 8) := by
   rw [hs, Int.add_mul_ediv_left _ _ (by omega), Int.ediv_eq_zero_of_lt hb.1 hb.2, Int.zero_add]
 rw [e, ← Int.ediv_ediv_of_nonneg (by omega), hd]
 have h1 := jB (fun j => f (i / 8 + j)) 1 (9 - i / 8 - 1)
 rw [show 1 + (9 - i / 8 - 1) = 9 - i / 8 by omega] at h1
 have h2 : vW (fun j => f (i / 8 + j)) 1 = f (i / 8) := by simp [vW]
 rw [h1, h2, Int.pow_one]
 generalize vW (fun j => (fun j => f (i / 8 + j)) (1 + j)) (9 - i / 8 - 1) = r
 generalize f (i / 8) = x
 have hm : i % 8 = 0 ∨ i % 8 = 1 ∨ i % 8 = 2 ∨ i % 8 = 3 ∨ i % 8 = 4 ∨ i % 8 = 5 ∨ i % 8 = 6 ∨ i % 8 = 7 := by omega
 rcases hm with h | h | h | h | h | h | h | h <;> rw [h] <;> simp <;> omega
def MinI (w l g : Nat → Int) (c : Int) (i : Nat) : Prop := In c 0 1 ∧ Wd g ∧ (∀ j, i ≤ j → g j = w j) ∧ vW g i + vW l i = vW w i + c * 18446744073709551616 ^ i
theorem nM {w : Nat → Int} (l : Nat → Int) (hw : Wd w) : MinI w l w 0 0 := ⟨by decide, hw, fun _ _ => rfl, by simp [vW]⟩
theorem pd {w l g : Nat → Int} {c a b v e : Int} {i : Nat} (hl : Wd l) (h : MinI w l g c i) (hi : i < 9) (ha : Eqn a (g i)) (hb : Eqn b (l i)) (hv : Eqn v ((a - b - c) % 18446744073709551616)) (he : Eqn e (bif decide (a - b - c < 0) then 1 else 0)) : MinI w l (upd g i v) e (i + 1) := by
 unfold Eqn at *
 obtain ⟨h1, h2, h3, h4⟩ := h
 have g1 := h2 i hi
 have l1 := hl i hi
 subst ha hb
 have hk : v = g i - l i - c + e * 18446744073709551616 ∧ In e 0 1 ∧ In v 0 18446744073709551615 := by
   unfold In at *
   by_cases hd : g i - l i - c < 0
   · rw [decide_eq_true hd, cond_true] at he; omega
   · rw [decide_eq_false hd, cond_false] at he; omega
 obtain ⟨k1, k2, k3⟩ := hk
 refine ⟨k2, fun j hj => ?_, fun j hj => ?_, ?_⟩
 · by_cases e : j = i
   · subst e; rw [bj]; exact k3
   · rw [av _ _ e]; exact h2 j hj
 · rw [av _ _ (by omega)]; exact h3 j (by omega)
 · rw [vW, vW, vW, iJ _ _ (Nat.le_refl _), bj, k1, ← h3 i (Nat.le_refl _), Int.pow_succ]
   generalize (18446744073709551616 : Int) ^ i = p at *
   generalize vW g i = x1 at *
   generalize vW l i = x2 at *
   generalize vW w i = x3 at *
   grind -lia -linarith
theorem rR {w l g : Nat → Int} {c : Int} {i : Nat} (hw : Wd w) (hl : Wd l) (h : MinI w l g c i) (hi : i = 9) : decide (c = 0) = decide (vW l 9 ≤ vW w 9) ∧ Wd g ∧ (vW l 9 ≤ vW w 9 → vW g 9 = vW w 9 - vW l 9) := by
 subst hi
 obtain ⟨h1, h2, _, h4⟩ := h
 have b1 := i5 (f := g) (n := 9) h2
 have b2 := i5 (f := l) (n := 9) hl
 have b3 := i5 (f := w) (n := 9) hw
 have hp := powW 9
 unfold In at h1
 have hc : c = 0 ∨ c = 1 := by omega
 rcases hc with rfl | rfl
 · refine ⟨?_, h2, fun _ => by omega⟩
   rw [decide_eq_true rfl, decide_eq_true (by omega)]
 · refine ⟨?_, h2, fun h => by omega⟩
   rw [decide_eq_false (by decide), decide_eq_false (by omega)]
def ordW : Nat → Int := vecN [6346243789798364141, 1503914060200516822, 0, 1152921504606846976]
theorem iq (j : Nat) : In (ordW j) 0 18446744073709551615 := by
 match j with
 | 0 => decide
 | 1 => decide
 | 2 => decide
 | 3 => decide
 | j + 4 => show In 0 0 18446744073709551615; decide
theorem rI : vW ordW 4 = 7237005577332262213973186563042994240857116359379907606001950938285454250989 := by decide +kernel
def ShI (n : Nat) (g : Nat → Int) (i : Nat) : Prop := Wd g ∧ vW g 9 = vW ordW i * 2 ^ n ∧ (∀ j, n / 64 + i < j → g j = 0) ∧ In (g (n / 64 + i)) 0 (2 ^ (n % 64) - 1)
theorem pK (n : Nat) : ShI n (fun _ => 0) 0 := ⟨fun _ _ => (show In 0 0 18446744073709551615 by decide), by rw [ng]; simp [vW], fun _ _ => rfl, by
  have : (0 : Int) < 2 ^ (n % 64) := Int.pow_pos (by decide)
  show In 0 0 _
  unfold In; omega⟩
theorem lb {x : Int} {s : Nat} (hs : s < 64) (h0 : 0 ≤ x) (h1 : x ≤ 18446744073709551615) : x * 2 ^ s = x * 2 ^ s % 18446744073709551616 + 18446744073709551616 * (x / 2 ^ (64 - s)) ∧ (x * 2 ^ s % 18446744073709551616) % 2 ^ s = 0 ∧ 0 ≤ x / 2 ^ (64 - s) ∧ x / 2 ^ (64 - s) ≤ 2 ^ s - 1 := by
 have hp : (0 : Int) < 2 ^ s := Int.pow_pos (by decide)
 have hr : (0 : Int) < 2 ^ (64 - s) := Int.pow_pos (by decide)
 have e : (18446744073709551616 : Int) = 2 ^ (64 - s) * 2 ^ s := by rw [← Int.pow_add, show 64 - s + s = 64 by omega]; decide
 have d : x * 2 ^ s / 18446744073709551616 = x / 2 ^ (64 - s) := by rw [e, Int.mul_ediv_mul_of_pos_left _ _ hp]
 have hm := Int.emod_add_mul_ediv (x * 2 ^ s) 18446744073709551616
 rw [d] at hm
 refine ⟨by omega, ?_, Int.ediv_nonneg h0 (by omega), ?_⟩
 · have e2 : x * 2 ^ s % 18446744073709551616 = (x - 2 ^ (64 - s) * (x / 2 ^ (64 - s))) * 2 ^ s := by
     rw [Int.sub_mul, Int.mul_assoc, Int.mul_comm (x / 2 ^ (64 - s)), ← Int.mul_assoc, ← e]; omega
   rw [e2]; exact Int.mul_emod_left _ _
 · have : x / 2 ^ (64 - s) < 2 ^ s := Int.ediv_lt_of_lt_mul hr (by rw [Int.mul_comm, ← e]; omega)
   omega
theorem ns {n i : Nat} {g : Nat → Int} {t : Int} (h : ShI n g i) (hn : n ≤ 264) (hi : i < 4) (ht : t = IntKind.u64.wrap (ordW i * 2 ^ (n % 64))) : bits .or .u64 (g (n / 64 + i)) t = g (n / 64 + i) + ordW i * 2 ^ (n % 64) % 18446744073709551616 ∧ g (n / 64 + i) + ordW i * 2 ^ (n % 64) % 18446744073709551616 ≤ 18446744073709551615 := by
 obtain ⟨h1, h2, h3, h4⟩ := h
 have hx := iq i
 obtain ⟨p1, p2, p3, p4⟩ := lb (s := n % 64) (Nat.mod_lt _ (by decide)) hx.1 hx.2
 have hg := h1 (n / 64 + i) (by omega)
 have hp : (0 : Int) < 2 ^ (n % 64) := Int.pow_pos (by decide)
 have ht2 : t = ordW i * 2 ^ (n % 64) % 18446744073709551616 := by rw [ht]; exact cc (k := .u64) rfl _
 unfold In at h4 hg
 have hb : (2 : Int) ^ (n % 64) * 2 ^ (64 - n % 64) = 18446744073709551616 := by rw [← Int.pow_add, show n % 64 + (64 - n % 64) = 64 by omega]; decide
 refine ⟨by rw [ht2]; exact jQ (n % 64) h4.1 (by omega) (by omega) (by omega) p2 (by omega), ?_⟩
 have hr : (0 : Int) < 2 ^ (64 - n % 64) := Int.pow_pos (by decide)
 have hle : ordW i * 2 ^ (n % 64) % 18446744073709551616 ≤ 18446744073709551616 - 2 ^ (n % 64) := by
   obtain ⟨c, hc⟩ := Int.dvd_of_emod_eq_zero p2
   rw [hc]
   have hlt : 2 ^ (n % 64) * c < 2 ^ (n % 64) * 2 ^ (64 - n % 64) := by rw [hb, ← hc]; omega
   have : c < 2 ^ (64 - n % 64) := Int.lt_of_mul_lt_mul_left hlt (by omega)
   have : 2 ^ (n % 64) * (c + 1) ≤ 2 ^ (n % 64) * 2 ^ (64 - n % 64) := Int.mul_le_mul_of_nonneg_left (by omega) (by omega)
   rw [hb, Int.mul_add, Int.mul_one] at this
   omega
 omega
theorem qh {n i : Nat} : ordW i * 2 ^ (n % 64) * 18446744073709551616 ^ (n / 64 + i) = ordW i * 18446744073709551616 ^ i * 2 ^ n := by
 have e : (2 : Int) ^ n = 2 ^ (n % 64) * 18446744073709551616 ^ (n / 64) := by
   rw [show (18446744073709551616 : Int) = 2 ^ 64 by decide, ← Int.pow_mul, ← Int.pow_add]; congr 1; omega
 rw [e, Int.pow_add]
 generalize (18446744073709551616 : Int) ^ (n / 64) = a
 generalize (18446744073709551616 : Int) ^ i = b
 generalize (2 : Int) ^ (n % 64) = c
 generalize ordW i = x
 grind -lia -linarith
theorem shI_one {n i : Nat} {g : Nat → Int} {t v : Int} (h : ShI n g i) (hn : n ≤ 264) (hi : i < 4) (ht : t = IntKind.u64.wrap (ordW i * 2 ^ (n % 64))) (hv : v = bits .or .u64 (g (n / 64 + i)) t) (hz : n % 64 = 0) : ShI n (upd g (n / 64 + i) v) (i + 1) := by
 obtain ⟨w1, w2⟩ := ns h hn hi ht
 have hx := iq i
 have hval := qh (n := n) (i := i)
 obtain ⟨h1, h2, h3, h4⟩ := h
 rw [hz] at w1 w2 h4 hval
 rw [Int.pow_zero, Int.mul_one] at w1 w2 hval
 have hg0 : g (n / 64 + i) = 0 := by unfold In at h4; omega
 have hm : ordW i % 18446744073709551616 = ordW i := Int.emod_eq_of_lt hx.1 (by have := hx.2; omega)
 rw [hg0, hm, Int.zero_add] at w1
 have hv2 : v = ordW i := by rw [hv, hg0, w1]
 refine ⟨fun j hj => ?_, ?_, fun j hj => ?_, ?_⟩
 · by_cases e : j = n / 64 + i
   · subst e; rw [bj, hv2]; exact hx
   · rw [av _ _ e]; exact h1 j hj
 · rw [g7 _ _ (by omega), h2, hg0, hv2, vW, Int.sub_zero, hval, Int.add_mul]
 · rw [av _ _ (by omega)]; exact h3 j (by omega)
 · rw [av _ _ (by omega), h3 (n / 64 + (i + 1)) (by omega), hz]; decide
theorem shI_two {n i : Nat} {g : Nat → Int} {t v u y : Int} (h : ShI n g i) (hn : n ≤ 264) (hi : i < 4) (ht : t = IntKind.u64.wrap (ordW i * 2 ^ (n % 64))) (hv : v = bits .or .u64 (g (n / 64 + i)) t) (hz : n % 64 ≠ 0) (hy : y = ordW i / 2 ^ (64 - n % 64)) (hu : u = bits .or .u64 (upd g (n / 64 + i) v (n / 64 + i + 1)) y) : ShI n (upd (upd g (n / 64 + i) v) (n / 64 + i + 1) u) (i + 1) := by
 obtain ⟨w1, w2⟩ := ns h hn hi ht
 have hx := iq i
 have hval := qh (n := n) (i := i)
 obtain ⟨h1, h2, h3, h4⟩ := h
 obtain ⟨p1, p2, p3, p4⟩ := lb (s := n % 64) (Nat.mod_lt _ (by decide)) hx.1 hx.2
 have hg1 : g (n / 64 + i + 1) = 0 := h3 _ (by omega)
 have hple : (2 : Int) ^ (n % 64) ≤ 18446744073709551616 := by
   have : ∀ m : Fin 64, (2 : Int) ^ m.val ≤ 18446744073709551616 := by decide +kernel
   exact this ⟨n % 64, Nat.mod_lt _ (by decide)⟩
 have hu2 : u = ordW i / 2 ^ (64 - n % 64) := by
   rw [hu, av _ _ (by omega), hg1, hy]
   exact na (k := .u64) (a := 0) (b := 18446744073709551615) rfl (by unfold In; omega) rfl rfl
 have hv2 : v = g (n / 64 + i) + ordW i * 2 ^ (n % 64) % 18446744073709551616 := by rw [hv, w1]
 have hv0 : 0 ≤ v := by
   have := (h1 (n / 64 + i) (by omega)).1
   omega
 refine ⟨fun j hj => ?_, ?_, fun j hj => ?_, ?_⟩
 · by_cases e : j = n / 64 + i + 1
   · subst e; rw [bj, hu2]; unfold In; omega
   · rw [av _ _ e]
     by_cases e2 : j = n / 64 + i
     · subst e2; rw [bj]; unfold In; omega
     · rw [av _ _ e2]; exact h1 j hj
 · rw [g7 _ _ (by omega), g7 _ _ (by omega), av _ _ (by omega), hg1, h2, hv2, hu2]
   have e1 : vW ordW (i + 1) * 2 ^ n = vW ordW i * 2 ^ n + ordW i * 2 ^ (n % 64) * 18446744073709551616 ^ (n / 64 + i) := by rw [hval, vW, Int.add_mul]
   rw [e1]
   generalize ordW i * 2 ^ (n % 64) = m at p1 ⊢
   have e2 : (18446744073709551616 : Int) ^ (n / 64 + i + 1) = 18446744073709551616 ^ (n / 64 + i) * 18446744073709551616 := Int.pow_succ ..
   rw [e2]
   have e3 : m * 18446744073709551616 ^ (n / 64 + i) = (m % 18446744073709551616 + 18446744073709551616 * (ordW i / 2 ^ (64 - n % 64))) * 18446744073709551616 ^ (n / 64 + i) := by rw [← p1]
   rw [e3]
   clear e1 e2 e3 hval p1 p2 p3 p4 w1 w2 h2 hv2 hu2 hu hv ht
   generalize m % 18446744073709551616 = a
   generalize ordW i / 2 ^ (64 - n % 64) = b
   generalize (18446744073709551616 : Int) ^ (n / 64 + i) = p
   generalize vW ordW i * 2 ^ n = q
   generalize g (n / 64 + i) = r
   grind -lia -linarith
 · rw [av _ _ (by omega), av _ _ (by omega)]; exact h3 j (by omega)
 · rw [show n / 64 + (i + 1) = n / 64 + i + 1 by omega, bj, hu2]; exact ⟨p3, p4⟩
theorem shI_end {n i : Nat} {g : Nat → Int} (h : ShI n g i) (hi : i = 4) : Wd g ∧ vW g 9 = 7237005577332262213973186563042994240857116359379907606001950938285454250989 * 2 ^ n := by
 subst hi; exact ⟨h.1, by rw [h.2.1, rI]⟩
def RestI (f w : Nat → Int) (n : Int) : Prop := Wd w ∧ vW w 9 % 7237005577332262213973186563042994240857116359379907606001950938285454250989 = vW f 9 % 7237005577332262213973186563042994240857116359379907606001950938285454250989 ∧ vW w 9 < 7237005577332262213973186563042994240857116359379907606001950938285454250989 * 2 ^ (n + 1).toNat
theorem pT {f w g l : Nat → Int} {n : Int} (h0 : 0 ≤ n) (h : RestI f w n) (hl : vW l 9 = 7237005577332262213973186563042994240857116359379907606001950938285454250989 * 2 ^ n.toNat) (hw : Wd g) (hg : vW g 9 = vW w 9 - vW l 9) : RestI f g (n - 1) := by
 obtain ⟨_, h2, h3⟩ := h
 rw [show (n + 1).toNat = n.toNat + 1 by omega, Int.pow_succ] at h3
 refine ⟨hw, ?_, ?_⟩
 · rw [hg, hl, ← h2, Int.sub_mul_emod_self_left]
 · rw [hg, hl, show (n - 1 + 1).toNat = n.toNat by omega]
   generalize (2 : Int) ^ n.toNat = p at *
   omega
theorem qs {f w l : Nat → Int} {n : Int} (h0 : 0 ≤ n) (h : RestI f w n) (hl : vW l 9 = 7237005577332262213973186563042994240857116359379907606001950938285454250989 * 2 ^ n.toNat) (hg : ¬ vW l 9 ≤ vW w 9) : RestI f w (n - 1) := by
 obtain ⟨h1, h2, h3⟩ := h
 exact ⟨h1, h2, by rw [show (n - 1 + 1).toNat = n.toNat by omega, ← hl]; omega⟩
theorem pU {f w : Nat → Int} {n : Int} (h : RestI f w n) (h0 : n = -1) : Wd w ∧ vW w 9 = vW f 9 % 7237005577332262213973186563042994240857116359379907606001950938285454250989 := by
 subst h0
 obtain ⟨h1, h2, h3⟩ := h
 have hb := i5 (f := w) (n := 9) h1
 have h3 : vW w 9 < 7237005577332262213973186563042994240857116359379907606001950938285454250989 := by simpa using h3
 exact ⟨h1, by omega⟩
def MaI (x y c0 w : Nat → Int) (i : Nat) : Prop := Wd w ∧ vW w 9 = vW c0 9 + vW x i * vW y 5
def MaJ (x y c0 w : Nat → Int) (i k : Nat) (c : Int) : Prop := Wd w ∧ In c 0 18446744073709551615 ∧ vW w 9 + c * 18446744073709551616 ^ (i + k) = vW c0 9 + vW x i * vW y 5 + x i * 18446744073709551616 ^ i * vW y k
theorem pg {x y c0 w : Nat → Int} {i : Nat} (h : MaI x y c0 w i) : MaJ x y c0 w i 0 0 := ⟨h.1, by decide, by rw [h.2]; simp [vW]⟩
theorem ma_sum {a b c d p lo1 v c2 : Int} (ha : In a 0 18446744073709551615) (hb : In b 0 18446744073709551615) (hc : In c 0 18446744073709551615) (hd : In d 0 18446744073709551615) (hp : p = a * b) (h1 : lo1 = (p % 18446744073709551616 + c + 0) % 18446744073709551616) (h2 : v = (d + lo1 + 0) % 18446744073709551616)
   (h3 : c2 = (p / 18446744073709551616 + (p % 18446744073709551616 + c + 0) / 18446744073709551616 + (d + lo1 + 0) / 18446744073709551616) % 18446744073709551616) : v + c2 * 18446744073709551616 = d + c + p ∧ In c2 0 18446744073709551615 ∧ In v 0 18446744073709551615 := by
 have hp0 : 0 ≤ p ∧ p ≤ 18446744073709551615 * 18446744073709551615 := by
   rw [hp]; exact ⟨Int.mul_nonneg ha.1 hb.1, (cP ha hb (by decide) (by decide)).2⟩
 unfold In at *
 omega
theorem rV {x y c0 w : Nat → Int} {i k : Nat} {c v c2 : Int} (h : MaJ x y c0 w i k c) (hik : i + k < 9) (hs : v + c2 * 18446744073709551616 = w (i + k) + c + x i * y k) (hc : In c2 0 18446744073709551615) (hv : In v 0 18446744073709551615) : MaJ x y c0 (upd w (i + k) v) i (k + 1) c2 := by
 obtain ⟨h1, h2, h3⟩ := h
 refine ⟨fun j hj => ?_, hc, ?_⟩
 · by_cases e : j = i + k
   · subst e; rw [bj]; exact hv
   · rw [av _ _ e]; exact h1 j hj
 · have ey : vW y (k + 1) = vW y k + y k * 18446744073709551616 ^ k := rfl
   have e : (18446744073709551616 : Int) ^ (i + k) = 18446744073709551616 ^ i * 18446744073709551616 ^ k := Int.pow_add ..
   have e5 : (18446744073709551616 : Int) ^ (i + k + 1) = 18446744073709551616 ^ i * 18446744073709551616 ^ k * 18446744073709551616 := by rw [Int.pow_succ, e]
   rw [g7 _ _ hik, ey, show i + (k + 1) = i + k + 1 by omega, e5, e]
   rw [e] at h3
   clear e e5 ey h1 hc
   generalize (18446744073709551616 : Int) ^ i = p at *
   generalize (18446744073709551616 : Int) ^ k = q at *
   generalize vW w 9 = s at *
   generalize vW c0 9 + vW x i * vW y 5 = r at *
   generalize vW y k = u at *
   generalize w (i + k) = d at *
   generalize x i = a at *
   generalize y k = b at *
   have hv : v = d + c + a * b - c2 * 18446744073709551616 := by omega
   subst hv
   grind -lia -linarith
def MaT (x y c0 w : Nat → Int) (i k : Nat) (c : Int) : Prop := Wd w ∧ In c 0 18446744073709551615 ∧ vW w 9 + c * 18446744073709551616 ^ k = vW c0 9 + vW x (i + 1) * vW y 5
theorem pf {x y c0 w : Nat → Int} {i k : Nat} {c : Int} (h : MaJ x y c0 w i k c) (hk : k = 5) : MaT x y c0 w i (i + 5) c := by
 subst hk
 obtain ⟨h1, h2, h3⟩ := h
 have ex : vW x (i + 1) = vW x i + x i * 18446744073709551616 ^ i := rfl
 exact ⟨h1, h2, by rw [h3, ex, Int.add_mul]; omega⟩
theorem rU {x y c0 w : Nat → Int} {i k : Nat} {c v c2 : Int} (h : MaT x y c0 w i k c) (hk : k < 9) (hv : v = (w k + c + 0) % 18446744073709551616) (hc : c2 = (w k + c + 0) / 18446744073709551616) : MaT x y c0 (upd w k v) i (k + 1) c2 := by
 obtain ⟨h1, h2, h3⟩ := h
 have hw := h1 k hk
 unfold In at h2 hw
 refine ⟨fun j hj => ?_, by unfold In; omega, ?_⟩
 · by_cases e : j = k
   · subst e; rw [bj]; unfold In; omega
   · rw [av _ _ e]; exact h1 j hj
 · rw [g7 _ _ hk, ← h3, Int.pow_succ]
   have e : v = w k + c - c2 * 18446744073709551616 := by omega
   rw [e]
   generalize (18446744073709551616 : Int) ^ k = p
   generalize vW w 9 = s
   grind -lia -linarith
theorem maT_end {x y c0 w : Nat → Int} {i k : Nat} {c : Int} (h : MaT x y c0 w i k c) (hk : k ≤ 9) (he : c = 0 ∨ k = 9) (hb : vW c0 9 + vW x (i + 1) * vW y 5 < 18446744073709551616 ^ 9) : MaI x y c0 w (i + 1) := by
 obtain ⟨h1, h2, h3⟩ := h
 have hw := i5 (f := w) (n := 9) h1
 have hc : c = 0 := by
   rcases he with h | h
   · exact h
   · subst h
     have hp := powW 9
     unfold In at h2
     rcases Int.lt_or_le 0 c with h4 | h4
     · have : 1 * 18446744073709551616 ^ 9 ≤ c * 18446744073709551616 ^ 9 := Int.mul_le_mul_of_nonneg_right (by omega) (by omega)
       generalize c * 18446744073709551616 ^ 9 = q at *
       omega
     · omega
 subst hc
 exact ⟨h1, by rw [← h3]; simp⟩
theorem qR {f : Nat → Int} (h : ∀ j, 32 ≤ 8 * j → f j = 0) : vW f 5 = vW f 9 ∧ vW f 4 = vW f 9 := by
 have e : ∀ n, vW f (4 + n) = vW f 4 := by
   intro n
   induction n with
   | zero => rfl
   | succ n ih => rw [← Nat.add_assoc, vW, ih, h (4 + n) (by omega)]; simp
 exact ⟨by rw [show 9 = 4 + 5 from rfl, e 5]; exact e 1, (e 5).symm⟩
end Go.Fld
namespace Go.Proofs.YtllmbkmghmmhfaaGreatDoor.W
open Go Go.Eng Go.Byt
open Go.Fld Go.Ed
theorem pE (x y c : Int) (hx : In x 0 18446744073709551615) (hy : In y 0 18446744073709551615) (hc : In c 0 1) (w : World) :
   (callFunc 97 #[.int .u64 x, .int .u64 y, .int .u64 c]).run Tryz.prog w = .ok (.value (.tuple #[.int .u64 ((x - y - c) % 18446744073709551616), .int .u64 (bif decide (x - y - c < 0) then 1 else 0)])) w := by
 unfold In at hx hy hc
 obtain ⟨a, rfl⟩ := Int.eq_ofNat_of_zero_le hx.1
 obtain ⟨b, rfl⟩ := Int.eq_ofNat_of_zero_le hy.1
 obtain ⟨e, rfl⟩ := Int.eq_ofNat_of_zero_le hc.1
 rw [run_callFunc_extern Tryz.func97 (by kernel_rfl) (by kernel_rfl) (by kernel_rfl) (e := Go.Proofs.sub64Entry) (by kernel_rfl), Go.Proofs.run_sub64 a b e (by omega)]
 simp only [Result.andThen]
 have e1 : (((a + 18446744073709551616 - b - e) % 18446744073709551616 : Nat) : Int) = ((a : Int) - b - e) % 18446744073709551616 := by omega
 have e2 : (((if a < b + e then 1 else 0) : Nat) : Int) = bif decide ((a : Int) - b - e < 0) then 1 else 0 := by
   by_cases h : a < b + e
   · rw [if_pos h, decide_eq_true (by omega)]; rfl
   · rw [if_neg h, decide_eq_false (by omega)]; rfl
 rw [e1, e2]
theorem jw (v : Value) (xs : List UInt8) (w : World) (hv : RdB w v xs) (hx : xs.length ≤ 64) : Rets Tryz.prog 48 [v] w (fun v w' => ∃ g, v = .agg (iv .u64 9 g).toArray ∧ (vW g 9 = leI xs ∧ Wd g ∧ ∀ j, xs.length ≤ 8 * j → g j = 0) ∧ Keep [] w w') := by
 have hB : Keep [] w w := Keep.refl _ _
 refine ac Tryz.func48 rfl (by decide) Tryz.ntmps48 rfl (fun fin _ hfin => a5 (aZ (ad (aj dz) rfl ?_)))
 rintro _ w1 ⟨b1, rfl, eb1, hb1, k1, z1⟩
 have ge_b1 : w.heap.size ≤ b1 := by have := hB.size; omega
 replace hB := hB.trans k1
 clear eb1 z1
 replace hb1 : Bk w1 b1 81 (iv .u64 9 (fun _ => 0)) := by rw [iv, bE]; exact hb1
 refine a6 (a5 (aZ (ad (aj dz) rfl ?_)))
 rintro _ w2 ⟨b2, rfl, eb2, hb2, k2, z2⟩
 have ge_b2 : w.heap.size ≤ b2 := by have := hB.size; omega
 have ne_b1_b2 : b1 ≠ b2 := by have := hb1.lt; omega
 obtain ⟨hB, hb1⟩ := bN k2 hB hb1
 clear eb2 z2
 replace hb2 : Bk w2 b2 81 (iv .u64 9 (fun _ => 0)) := by rw [iv, bE]; exact hb2
 refine a6 (a5 (a5 (aZ (ogm rfl rfl (a7 (cB aA rfl (by first | assumption | exact Own.rd ‹_› | exact Rd.s8 ‹_› hB | exact Own.rd (Own.s8 ‹_› hB))) rfl (ogm rfl rfl (a6 (ab (bK (Γ := Nat × (Nat → Int)) (fun ⟨i, g⟩ => [(2, .pointer (some ⟨b1, 0, none⟩)), (3, .pointer (some ⟨b2, 0, none⟩)), (6, v), (7, .int .i64 (xs.length : Int)), (8, .int .i64 (i : Int))]) (fun ⟨i, g⟩ W => i ≤ xs.length ∧ GetI xs g i ∧ Bk W b1 81 (iv .u64 9 (fun _ => 0)) ∧ Bk W b2 81 (iv .u64 9 g) ∧ Keep [] w W) (fun ⟨i, g⟩ => xs.length - i) ⟨0, _⟩ ⟨rfl, rfl, rfl, rfl, rfl, trivial⟩ (⟨by omega, jX xs, hb1, hb2, hB⟩) ?_)))))))))
 rintro ⟨i, g⟩ w3 ⟨hi, hI, hbx2, hbx3, hB⟩
 refine a9 [(2, .pointer (some ⟨b1, 0, none⟩)), (3, .pointer (some ⟨b2, 0, none⟩)), (6, v), (7, .int .i64 (xs.length : Int)), (8, .int .i64 (i : Int))] ⟨rfl, rfl, rfl, rfl, rfl, trivial⟩ (a5 (aZ (a7 (bd rfl rfl) rfl (a6 (a5 (bT rfl (fun hc1 => ?_) (fun hc1 => ?_)))))))
 ·
  refine af (a5 (ab (a5 (aZ (ogm rfl rfl (a7 (bk aA cg rfl (by first | assumption | exact Own.rd ‹_› | exact Rd.s8 ‹_› hB | exact Own.rd (Own.s8 ‹_› hB)) rfl (by omega)) rfl (an (e' := gb xs (i : Int)) (lo := 0) (hi := 255) (dT iI rfl (by first | assumption | exact Own.rd ‹_› | exact Rd.s8 ‹_› hB | exact Own.rd (Own.s8 ‹_› hB)) (by omega)) (rfl) ((cG xs _)) rfl (fun z3 h1 r1 => oga rfl rfl (oga rfl rfl (a6 (cJ 11 mixed (by decide +kernel) (fun w4 k3 => ?_))))))))))))
  obtain ⟨hB, hbx2, hbx3⟩ := ca k3 hB hbx2 hbx3
  refine ao (bY rfl) rfl (ao (es rfl rfl (by omega)) rfl (ao (ar (i / 8) aP ag rfl rfl (by omega) (by omega)) rfl (cM (e' := g (i / 8)) (lo := 0) (hi := 18446744073709551615) (ah au rfl hbx3 (bO (by omega))) (rfl) ((hI.2.1 _ (by omega))) rfl (fun z4 h2 r2 => ao (bY rfl) rfl (cM (e' := z3) (lo := 0) (hi := 255) (eb (by rw [aH]; rfl) aN rfl) (ap r1 rfl) (r1) rfl (fun z5 h3 r3 => ao (bY rfl) rfl (ao (fQ rfl rfl (by omega)) rfl (ao (fR rfl rfl (by omega)) rfl (ao (kI rfl rfl (by constructor <;> (try simp only [IntKind.bits]) <;> omega)) rfl (ao (ek rfl rfl) rfl (cV ?_)))))))))))
  refine a7 (ar (i / 8) aP ag rfl rfl (by omega) (by omega)) rfl (ae (ck (v := (bits .or .u64 z4 (IntKind.u64.wrap (z5 * 2 ^ ((8 * ((i : Int) % 8)) : Int).toNat)))) ag rfl rfl hbx3 (by omega)) ?_)
  rintro _ w5 ⟨hb3, k4, z6⟩
  replace hbx2 := hbx2.keep k4 (nm ne_b1_b2)
  replace hB := hB.new k4 (nw ge_b2)
  clear z6
  refine a6 (a9 [(2, _), (3, _), (6, _), (7, _), (8, _)] ⟨rfl, rfl, rfl, rfl, rfl, trivial⟩ (bZ (aZ (a7 (bi rfl rfl (by omega)) rfl (ogm rfl rfl (a6 (bM (Γ := Nat × (Nat → Int)) ⟨i + 1, _⟩ ⟨rfl, rfl, rfl, rfl, rfl, trivial⟩ (by (try dsimp only); omega) (⟨by omega, mQ hI (by omega) (by omega) h2 (by have a := h1; have b := h3; unfold Eqn at *; rw [b, a]) rfl rfl, hbx2, hb3, hB⟩))))))))
 ·
  refine bF rfl (a5 (aZ (a7 (aa (cs' := iv .u64 9 g) jg dz rfl hbx3 rfl rfl) rfl (ae (bh (vs := iv .u64 9 g) dz rfl rfl rfl ai hbx2 rfl) ?_))))
  rintro _ w6 ⟨hb4, k5, z7⟩
  replace hB := hB.new k5 (nw ge_b1)
  clear z7
  refine a6 (ba hfin Tryz.results48 rfl (ak jg dz hb4 rfl)  ?_)
  exact ⟨g, rfl, (mR hI (by omega)), hB⟩
theorem go (v : Value) (xs : List UInt8) (w : World) (hv : RdB w v xs) (hx : xs.length = 32) : Rets Tryz.prog 48 [v] w (fun v w' => ∃ g, v = .agg (iv .u64 9 g).toArray ∧ (vW g 9 = leI xs ∧ Wd g ∧ ∀ j, 32 ≤ 8 * j → g j = 0) ∧ Keep [] w w') := (jw v xs w hv (by omega)).mono fun _ _ ⟨g, h, h2, k⟩ => ⟨g, h, hx ▸ h2, k⟩
theorem l7 (f : Nat → Int) (hf : Wd f) (w : World) : Rets Tryz.prog 52 [.agg (iv .u64 9 f).toArray] w (fun v w' => OwnB w' w.heap.size v (leB (vW f 9) 32) ∧ Keep [] w w') := by
 have hB : Keep [] w w := Keep.refl _ _
 refine ac Tryz.func52 rfl (by decide) Tryz.ntmps52 rfl (fun fin _ hfin => a5 (aZ (ad (bc (cs := iv .u64 9 f) rfl rfl) rfl ?_)))
 rintro _ w1 ⟨b1, rfl, eb1, hb1, k1, z1⟩
 replace hB := hB.trans k1
 clear eb1 z1
 refine oga rfl rfl (a6 (a5 (aZ (ad (nZ aA cg rfl rfl (by omega) (by constructor <;> omega)) rfl ?_))))
 rintro q w5 ⟨o5, _, _, k5, _⟩
 have hsep : ∀ x, x ∈ vblk q → x ≠ b1 := fun x hx => by have h1 := (o5.blk x hx).1; have h2 := hb1.lt; omega
 replace o5 : Own w5 w.heap.size 5 1 q 32 (iv .u8 32 (fun _ => 0)) := by rw [iv, bE]; exact o5.lo hB.size
 obtain ⟨hB, hb1⟩ := bN k5 hB hb1
 refine oga rfl rfl (a6 (a5 (a5 (aZ (ogm rfl rfl (a7 (cB aA rfl (by first | assumption | exact Own.rd ‹_› | exact Rd.s8 ‹_› hB | exact Own.rd (Own.s8 ‹_› hB))) rfl (ogm rfl rfl (a6 (ab (bK (Γ := Nat × (Nat → Int)) (fun ⟨i, h⟩ => [(1, .pointer (some ⟨b1, 0, none⟩)), (3, q), (7, .int .i64 32), (8, .int .i64 (i : Int))]) (fun ⟨i, h⟩ W => i ≤ 32 ∧ Part (byteN (vW f 9)) (fun _ => 0) h i ∧ Own W w.heap.size 5 1 q 32 (iv .u8 32 h) ∧ Bk W b1 81 (iv .u64 9 f) ∧ Keep [] w W) (fun ⟨i, h⟩ => 32 - i) ⟨0, _⟩ ⟨rfl, rfl, rfl, rfl, trivial⟩ (⟨by decide, eq _ _, o5, hb1, hB⟩) ?_))))))))))
 rintro ⟨i, h⟩ w3 ⟨hi, hP, ox, hbx1, hB⟩
 refine a9 [(1, .pointer (some ⟨b1, 0, none⟩)), (3, q), (7, .int .i64 32), (8, .int .i64 (i : Int))] ⟨rfl, rfl, rfl, rfl, trivial⟩ (a5 (aZ (a7 (bd rfl rfl) rfl (a6 (a5 (bT rfl (fun hc1 => ?_) (fun hc1 => ?_)))))))
 ·
  refine af (a5 (ab (a5 (aZ (ogm rfl rfl (oga rfl rfl (a6 (aZ (ogm rfl rfl (ogm rfl rfl (ogm rfl rfl (a7 (es rfl rfl (by omega)) rfl (a7 (ar (i / 8) aP ag rfl rfl (by omega) (by omega)) rfl (an (e' := f (i / 8)) (lo := 0) (hi := 18446744073709551615) (ah au rfl hbx1 (bO (by omega))) (rfl) ((hf _ (by omega))) rfl (fun z3 h1 r1 => ogm rfl rfl (a7 (fQ rfl rfl (by omega)) rfl (a7 (fR rfl rfl (by omega)) rfl (a7 (fC rfl rfl (by constructor <;> (try simp only [IntKind.bits]) <;> omega)) rfl (an (e' := (z3 / 2 ^ ((8 * ((i : Int) % 8)) : Int).toNat) % 256) (lo := 0) (hi := 255) (eb (by rw [aN]; rfl) aH rfl) (cc rfl _) (In.wk (bb _ (by decide)) rfl) rfl (fun z4 h2 r2 => a7 (bk aA cg rfl (by first | assumption | exact Own.rd ‹_› | exact Rd.s8 ‹_› hB | exact Own.rd (Own.s8 ‹_› hB)) rfl (by omega)) rfl ?_))))))))))))))))))))
  refine ae (eY (u := .int .u8 z4) cg rfl rfl rfl ox (by rw [cO]; omega)) ?_
  rintro _ w9 ⟨ox2, k9, z9⟩
  rw [show (i : Int).toNat * 1 = i by omega, jV] at ox2
  replace hB := hB.new k9 (fun x hx => .inl (ox.blk x hx).1)
  replace hbx1 := hbx1.keep k9 (fun hm => hsep _ hm rfl)
  refine a6 (a9 [(1, _), (3, _), (7, _), (8, _)] ⟨rfl, rfl, rfl, rfl, trivial⟩ (bZ (aZ (a7 (bi rfl rfl (by omega)) rfl (ogm rfl rfl (a6 (bM (Γ := Nat × (Nat → Int)) ⟨i + 1, _⟩ ⟨rfl, rfl, rfl, rfl, trivial⟩ (by (try dsimp only); omega) (⟨by omega, fL hP (by have a := h1; have b := h2; unfold Eqn at *; rw [b, a, og hf (by omega)]; rfl), ox2, hbx1, hB⟩))))))))
 ·
  refine bF rfl (a5 (aZ (ogm rfl rfl (oga rfl rfl (a6 (bG hfin Tryz.results52 rfl ?_))))))
  have hc : iv .u8 32 h = bv (leB (vW f 9) 32) := by
   have e := n7 32 (vW f 9) 0
   rw [Int.pow_zero, Int.ediv_one] at e
   rw [e]; exact en (fun j _ hj => hP.1 j (by omega))
  rw [hc] at ox
  exact ⟨by unfold OwnB; rw [eI]; exact ox, hB⟩
theorem jG (a l : Nat → Int) (ha : Wd a) (hl : Wd l) (w : World) : Rets Tryz.prog 65 [.agg (iv .u64 9 a).toArray, .agg (iv .u64 9 l).toArray] w (fun v w' => ∃ g, v = .tuple #[.agg (iv .u64 9 g).toArray, .bool (decide (vW l 9 ≤ vW a 9))] ∧ (Wd g ∧ (vW l 9 ≤ vW a 9 → vW g 9 = vW a 9 - vW l 9)) ∧ Keep [] w w') := by
  have hB : Keep [] w w := Keep.refl _ _
  refine ac Tryz.func65 rfl (by decide) Tryz.ntmps65 rfl (fun fin _ hfin => a5 (aZ (ad (bc (cs := iv .u64 9 a) rfl rfl) rfl ?_)))
  rintro _ w1 ⟨b1, rfl, eb1, hb1, k1, z1⟩
  have ge_b1 : w.heap.size ≤ b1 := by have := hB.size; omega
  replace hB := hB.trans k1
  clear eb1 z1
  refine ad (bc (cs := iv .u64 9 l) rfl rfl) rfl ?_
  rintro _ w2 ⟨b2, rfl, eb2, hb2, k2, z2⟩
  have ne_b1_b2 : b1 ≠ b2 := by have := hb1.lt; omega
  obtain ⟨hB, hb1⟩ := bN k2 hB hb1
  clear eb2 z2
  refine ad (aj dz) rfl ?_
  rintro _ w3 ⟨b3, rfl, eb3, hb3, k3, z3⟩
  have ge_b3 : w.heap.size ≤ b3 := by have := hB.size; omega
  have ne_b1_b3 : b1 ≠ b3 := by have := hb1.lt; omega
  obtain ⟨hB, hb1, hb2⟩ := ca k3 hB hb1 hb2
  clear eb3 z3
  replace hb3 : Bk w3 b3 81 (iv .u64 9 (fun _ => 0)) := by rw [iv, bE]; exact hb3
  refine oga rfl rfl (a6 (a5 (aZ (oga rfl rfl (a6 (a5 (a5 (aZ ?_))))))))
  refine ogm rfl rfl (a6 (ab (bK (Γ := Nat × (Nat → Int) × Int) (fun ⟨i, g, c⟩ => [(2, .pointer (some ⟨b1, 0, none⟩)), (3, .pointer (some ⟨b2, 0, none⟩)), (4, .pointer (some ⟨b3, 0, none⟩)), (6, .int .u64 c), (8, .int .i64 (i : Int))]) (fun ⟨i, g, c⟩ W => i ≤ 9 ∧ MinI a l g c i ∧ Bk W b1 81 (iv .u64 9 g) ∧ Bk W b2 81 (iv .u64 9 l) ∧ Bk W b3 81 (iv .u64 9 (fun _ => 0)) ∧ Keep [] w W) (fun ⟨i, g, c⟩ => 9 - i) ⟨0, a, 0⟩ ⟨rfl, rfl, rfl, rfl, rfl, trivial⟩ (⟨by decide, nM l ha, hb1, hb2, hb3, hB⟩) ?_)))
  rintro ⟨i, g, c⟩ w4 ⟨hi, hI, hbx2, hbx3, hbx4, hB⟩
  refine a9 [(2, .pointer (some ⟨b1, 0, none⟩)), (3, .pointer (some ⟨b2, 0, none⟩)), (4, .pointer (some ⟨b3, 0, none⟩)), (6, .int .u64 c), (8, .int .i64 (i : Int))] ⟨rfl, rfl, rfl, rfl, rfl, trivial⟩ (a5 (aZ (a7 (bd rfl rfl) rfl (a6 (a5 (bT rfl (fun hc1 => ?_) (fun hc1 => ?_)))))))
  · -- yes
    refine af (a5 (ab (a5 (aZ (ogm rfl rfl (oga rfl rfl (a6 (fv 13 [0, 1, 2, 3, 4, 5, 6, 7, 8, 9, 10, 11, 12] [] [] [] (x := 11) rfl mixed [(7, _), (2, _), (3, _), (6, _), (4, _), (8, _)] ⟨rfl, rfl, rfl, rfl, rfl, rfl, trivial⟩ (by decide +kernel) (by decide) (by decide) ?_ (fun x hx => by cases hx) rfl (fun w5 k4 => ?_)))))))))
    · intro q hq; cases hq
    obtain ⟨hB, hbx2, hbx3, hbx4⟩ := dG k4 hB hbx2 hbx3 hbx4
    refine bu 7 rfl rfl rfl rfl rfl (bu 7 rfl rfl rfl rfl rfl (cn 2 13 rfl rfl rfl rfl rfl (fun W' kk => ar (i) aP ag rfl rfl (by omega) (by omega)) (dg (e' := g i) (lo := 0) (hi := 18446744073709551615) [(14, _)] rfl rfl ⟨rfl, trivial⟩ rfl (fun W' kk => ah au rfl (Bk.s8 hbx2 kk) (bO (by omega))) (rfl) ((hI.2.1 _ (by omega))) (fun z4 h1 r1 => bu 7 rfl rfl rfl rfl rfl (cn 3 16 rfl rfl rfl rfl rfl (fun W' kk => ar (i) aP ag rfl rfl (by omega) (by omega)) (dg (e' := l i) (lo := 0) (hi := 18446744073709551615) [(17, _)] rfl rfl ⟨rfl, trivial⟩ rfl (fun W' kk => ah au rfl (Bk.s8 hbx3 kk) (bO (by omega))) (rfl) ((hl _ (by omega))) (fun z5 h2 r2 => bu 6 rfl rfl rfl rfl rfl (jm [(15, _), (18, _), (19, _)] rfl rfl ⟨rfl, rfl, rfl, trivial⟩ rfl (fun W' kk => eX (vs := [_, _, _]) rfl (pE _ _ _ (In.wk r1 rfl) (In.wk r2 rfl) (In.wk hI.1 rfl))) ?_))))))))
    refine bu 20 rfl rfl rfl rfl rfl (dg (e' := ((z4 - z5 - c) % 18446744073709551616)) (lo := 0) (hi := 18446744073709551615) [(11, _)] rfl rfl ⟨rfl, trivial⟩ rfl (fun W' kk => bH (vs := [_, _]) rfl rfl) (rfl) (In.wk (bb _ (by decide)) rfl) (fun z6 h3 r3 => dg (e' := (bif decide ((z4 - z5 - c) < 0) then 1 else 0)) (lo := 0) (hi := 1) [(11, _)] rfl rfl ⟨rfl, trivial⟩ rfl (fun W' kk => bH (vs := [_, _]) rfl rfl) (rfl) (in_bif _) (fun z7 h4 r4 => cn 2 12 rfl rfl rfl rfl rfl (fun W' kk => ar (i) aP ag rfl rfl (by omega) (by omega)) (gw (fun w6 k5 => ?_)))))
    obtain ⟨hB, hbx2, hbx3, hbx4⟩ := dG k5 hB hbx2 hbx3 hbx4
    refine gE (tailx [(21, _), (23, _)] rfl ⟨rfl, rfl, trivial⟩ rfl (ck (v := z6) ag rfl rfl hbx2 (by omega)) ?_)
    rintro _ w7 ⟨hb4, k6, z8⟩
    replace hbx3 := hbx3.keep k6 (nm (Ne.symm ne_b1_b2))
    replace hbx4 := hbx4.keep k6 (nm (Ne.symm ne_b1_b3))
    replace hB := hB.new k6 (nw ge_b1)
    clear z8
    refine oga rfl rfl (a6 (a9 [(2, _), (3, _), (6, _), (4, _), (8, _)] ⟨rfl, rfl, rfl, rfl, rfl, trivial⟩ (bZ (aZ (a7 (bi rfl rfl (by omega)) rfl (ogm rfl rfl (a6 (bM (Γ := Nat × (Nat → Int) × Int) ⟨i + 1, _, _⟩ ⟨rfl, rfl, rfl, rfl, rfl, trivial⟩ (by (try dsimp only); omega) (⟨by omega, pd hl hI (by omega) h1 h2 h3 h4, hb4, hbx3, hbx4, hB⟩)))))))))
  · -- no
    refine bF rfl (a5 (aZ (a7 (aa (cs' := iv .u64 9 g) jg dz rfl hbx2 rfl rfl) rfl (ogm rfl rfl (a7 (fS rfl rfl) rfl (ae (bh (vs := iv .u64 9 g) dz rfl rfl rfl ai hbx4 rfl) ?_))))))
    rintro _ w8 ⟨hb5, k7, z9⟩
    replace hB := hB.new k7 (nw ge_b3)
    clear z9
    refine oga rfl rfl (a6 (cS hfin Tryz.results65 rfl (ak jg dz hb5 rfl) rfl ?_))
    obtain ⟨e1, e2, e3⟩ := rR ha hl hI (by omega)
    exact ⟨g, by rw [e1], ⟨e2, e3⟩, hB⟩
theorem mi (m : Nat) (hm : m ≤ 264) (w : World) : Rets Tryz.prog 66 [.int .i64 (m : Int)] w (fun v w' => ∃ g, v = .agg (iv .u64 9 g).toArray ∧ (Wd g ∧ vW g 9 = 7237005577332262213973186563042994240857116359379907606001950938285454250989 * 2 ^ m) ∧ Keep [] w w') := by
 have hB : Keep [] w w := Keep.refl _ _
 refine ac Tryz.func66 rfl (by decide) Tryz.ntmps66 rfl (fun fin _ hfin => a5 (aZ (ad (aj dz) rfl ?_)))
 rintro _ w1 ⟨b1, rfl, eb1, hb1, k1, z1⟩
 have ge_b1 : w.heap.size ≤ b1 := by have := hB.size; omega
 replace hB := hB.trans k1
 clear eb1 z1
 replace hb1 : Bk w1 b1 81 (iv .u64 9 (fun _ => 0)) := by rw [iv, bE]; exact hb1
 refine a6 (a5 (aZ (a7 (dm (idx := [0, 1, 2, 3]) (xs := [.const (.int .u64 (6346243789798364141)), .const (.int .u64 (1503914060200516822)), .const (.int .u64 (0)), .const (.int .u64 (1152921504606846976))]) (vs := [_, _, _, _]) (css := [[.int .u64 6346243789798364141], [.int .u64 1503914060200516822], [.int .u64 0], [.int .u64 1152921504606846976]]) (out := [.int .u64 6346243789798364141, .int .u64 1503914060200516822, .int .u64 0, .int .u64 1152921504606846976]) aM ag fu (dS 4 1) rfl rfl ⟨rfl, rfl, rfl, rfl, trivial⟩ rfl rfl) rfl (ad (aj fu) rfl ?_))))
 rintro _ w2 ⟨b2, rfl, eb2, hb2, k2, z2⟩
 have ge_b2 : w.heap.size ≤ b2 := by have := hB.size; omega
 have ne_b1_b2 : b1 ≠ b2 := by have := hb1.lt; omega
 obtain ⟨hB, hb1⟩ := bN k2 hB hb1
 clear eb2 z2
 refine ae (bB fu rfl rfl rfl (by simp only [List.forall_mem_cons]; refine ⟨rfl, rfl, rfl, rfl, fun v hv => by cases hv⟩) hb2 rfl) ?_
 rintro _ w3 ⟨hb3, k3, z3⟩
 replace hb1 := hb1.keep k3 (nm ne_b1_b2)
 replace hB := hB.new k3 (nw ge_b2)
 clear z3
 replace hb3 : Bk w3 b2 _ [.int .u64 6346243789798364141, .int .u64 1503914060200516822, .int .u64 0, .int .u64 1152921504606846976] := hb3
 refine a6 (a5 (aZ (ad (aj dz) rfl ?_)))
 rintro _ w4 ⟨b3, rfl, eb3, hb4, k4, z4⟩
 have ge_b3 : w.heap.size ≤ b3 := by have := hB.size; omega
 have ne_b1_b3 : b1 ≠ b3 := by have := hb1.lt; omega
 obtain ⟨hB, hb1, hb3⟩ := ca k4 hB hb1 hb3
 clear eb3 z4
 replace hb4 : Bk w4 b3 81 (iv .u64 9 (fun _ => 0)) := by rw [iv, bE]; exact hb4
 refine a6 (a5 (a5 (aZ (a7 (aa (cs' := [_, _, _, _]) ag128 fu rfl hb3 rfl rfl) rfl (ogm rfl rfl (a6 (ab (bK (Γ := Nat × (Nat → Int)) (fun ⟨i, g⟩ => [(2, .pointer (some ⟨b1, 0, none⟩)), (4, .pointer (some ⟨b3, 0, none⟩)), (0, .int .i64 (m : Int)), (8, .agg (iv .u64 4 ordW).toArray), (9, .int .i64 (i : Int))]) (fun ⟨i, g⟩ W => i ≤ 4 ∧ ShI m g i ∧ Bk W b1 81 (iv .u64 9 (fun _ => 0)) ∧ Bk W b3 81 (iv .u64 9 g) ∧ Keep [] w W) (fun ⟨i, g⟩ => 4 - i) ⟨0, _⟩ ⟨rfl, rfl, rfl, rfl, rfl, trivial⟩ (⟨by decide, pK m, hb1, hb4, hB⟩) ?_))))))))
 rintro ⟨i, g⟩ w5 ⟨hi, hI, hbx2, hbx4, hB⟩
 refine a9 [(2, .pointer (some ⟨b1, 0, none⟩)), (4, .pointer (some ⟨b3, 0, none⟩)), (0, .int .i64 (m : Int)), (8, .agg (iv .u64 4 ordW).toArray), (9, .int .i64 (i : Int))] ⟨rfl, rfl, rfl, rfl, rfl, trivial⟩ (a5 (aZ (a7 (bd rfl rfl) rfl (a6 (a5 (bT rfl (fun hc1 => ?_) (fun hc1 => ?_)))))))
 ·
  refine af (a5 (ab (a5 (aZ (ogm rfl rfl (an (e' := ordW i) (lo := 0) (hi := 18446744073709551615) (gX aM ag au rfl rfl (by omega) (bO (by omega))) (rfl) ((iq _)) rfl (fun z5 h1 r1 => oga rfl rfl (oga rfl rfl (a6 (a5 (cJ 11 mixed (by decide +kernel) (fun w6 k5 => ?_))))))))))))
  obtain ⟨hB, hbx2, hbx4⟩ := ca k5 hB hbx2 hbx4
  refine ao (bY rfl) rfl (ao (bY rfl) rfl (ao (es rfl rfl (by omega)) rfl (ao (bi rfl rfl (by omega)) rfl (ao (ar (m / 64 + i) aP ag rfl rfl (by omega) (by omega)) rfl (cM (e' := g (m / 64 + i)) (lo := 0) (hi := 18446744073709551615) (ah au rfl hbx4 (bO (by omega))) (rfl) ((hI.1 _ (by omega))) rfl (fun z6 h2 r2 => ao (bY rfl) rfl (ao (bY rfl) rfl (ao (fQ rfl rfl (by omega)) rfl (ao (kI rfl rfl (by constructor <;> (try simp only [IntKind.bits]) <;> omega)) rfl (ao (ek rfl rfl) rfl (cV (a7 (ar (m / 64 + i) aP ag rfl rfl (by omega) (by omega)) rfl ?_))))))))))))
  refine ae (ck (v := (bits .or .u64 z6 (IntKind.u64.wrap (z5 * 2 ^ (((m : Int) % 64) : Int).toNat)))) ag rfl rfl hbx4 (by omega)) ?_
  rintro _ w7 ⟨hb5, k6, z7⟩
  replace hbx2 := hbx2.keep k6 (nm ne_b1_b3)
  replace hB := hB.new k6 (nw ge_b3)
  clear z7
  refine a6 (a9 [(2, _), (4, _), (0, _), (8, _), (9, _), (5, _), (6, _)] ⟨rfl, rfl, rfl, rfl, rfl, rfl, rfl, trivial⟩ (a5 (aZ (ogm rfl rfl (a7 (fQ rfl rfl (by omega)) rfl (a7 (mV rfl rfl) rfl (a6 (bT rfl (fun hc2 => ?_) (fun hc2 => ?_)))))))))
  ·
   refine cJ 13 mixed (by decide +kernel) (fun w8 k7 => ?_)
   obtain ⟨hB, hbx2, hb5⟩ := ca k7 hB hbx2 hb5
   refine ao (bY rfl) rfl (ao (bY rfl) rfl (ao (es rfl rfl (by omega)) rfl (ao (bi rfl rfl (by omega)) rfl (ao (bi rfl rfl (by omega)) rfl (ao (ar (m / 64 + i + 1) aP ag rfl rfl (by omega) (by omega)) rfl (sw_gz (e' := (upd g (m / 64 + i) (bits .or .u64 z6 (IntKind.u64.wrap (z5 * 2 ^ (((m : Int) % 64) : Int).toNat)))) (m / 64 + i + 1)) (ah au rfl hb5 (bO (by omega))) (rfl) rfl (fun z8 h3 => ao (bY rfl) rfl (ao (bY rfl) rfl (ao (fQ rfl rfl (by omega)) rfl (ao (cj rfl rfl (by omega)) rfl (ao (fC rfl rfl (by constructor <;> (try simp only [IntKind.bits]) <;> omega)) rfl (ao (ek rfl rfl) rfl ?_))))))))))))
   refine cV (a7 (ar (m / 64 + i + 1) aP ag rfl rfl (by omega) (by omega)) rfl (ae (ck (v := (bits .or .u64 z8 (z5 / 2 ^ ((64 - ((m : Int) % 64)) : Int).toNat))) ag rfl rfl hb5 (by omega)) ?_))
   rintro _ w9 ⟨hb6, k8, z9⟩
   replace hbx2 := hbx2.keep k8 (nm ne_b1_b3)
   replace hB := hB.new k8 (nw ge_b3)
   clear z9
   refine a6 (a9 [(2, _), (4, _), (0, _), (8, _), (9, _)] ⟨rfl, rfl, rfl, rfl, rfl, trivial⟩ (bZ (aZ (a7 (bi rfl rfl (by omega)) rfl (ogm rfl rfl (a6 (bM (Γ := Nat × (Nat → Int)) ⟨i + 1, _⟩ ⟨rfl, rfl, rfl, rfl, rfl, trivial⟩ (by (try dsimp only); omega) (⟨by omega, shI_two (t := (IntKind.u64.wrap (z5 * 2 ^ (((m : Int) % 64) : Int).toNat))) (y := (z5 / 2 ^ ((64 - ((m : Int) % 64)) : Int).toNat)) (v := (bits .or .u64 z6 (IntKind.u64.wrap (z5 * 2 ^ (((m : Int) % 64) : Int).toNat)))) (u := (bits .or .u64 z8 (z5 / 2 ^ ((64 - ((m : Int) % 64)) : Int).toNat))) hI hm (by omega) (by have a := h1; unfold Eqn at a; rw [a, show ((m : Int) % 64).toNat = m % 64 by omega]) (by have a := h2; unfold Eqn at a; rw [a]) (by omega) (by have a := h1; unfold Eqn at a; rw [a, show ((64 - ((m : Int) % 64)) : Int).toNat = 64 - m % 64 by omega]) (by have a := h3; unfold Eqn at a; rw [a]), hbx2, hb6, hB⟩))))))))
  ·
   refine af (bZ (aZ (a7 (bi rfl rfl (by omega)) rfl (ogm rfl rfl (a6 (bM (Γ := Nat × (Nat → Int)) ⟨i + 1, _⟩ ⟨rfl, rfl, rfl, rfl, rfl, trivial⟩ (by (try dsimp only); omega) (⟨by omega, shI_one (t := (IntKind.u64.wrap (z5 * 2 ^ (((m : Int) % 64) : Int).toNat))) (v := (bits .or .u64 z6 (IntKind.u64.wrap (z5 * 2 ^ (((m : Int) % 64) : Int).toNat)))) hI hm (by omega) (by have a := h1; unfold Eqn at a; rw [a, show ((m : Int) % 64).toNat = m % 64 by omega]) (by have a := h2; unfold Eqn at a; rw [a]) (by omega), hbx2, hb5, hB⟩)))))))
 ·
  refine bF rfl (a5 (aZ (a7 (aa (cs' := iv .u64 9 g) jg dz rfl hbx4 rfl rfl) rfl (ae (bh (vs := iv .u64 9 g) dz rfl rfl rfl ai hbx2 rfl) ?_))))
  rintro _ w10 ⟨hb7, k9, z10⟩
  replace hB := hB.new k9 (nw ge_b1)
  clear z10
  refine a6 (ba hfin Tryz.results66 rfl (ak jg dz hb7 rfl)  ?_)
  exact ⟨g, rfl, shI_end hI (by omega), hB⟩
theorem jF (n : Int) (h0 : 0 ≤ n) (h1 : n ≤ 264) (w : World) : Rets Tryz.prog 66 [.int .i64 n] w (fun v w' => ∃ g, v = .agg (iv .u64 9 g).toArray ∧ (Wd g ∧ vW g 9 = 7237005577332262213973186563042994240857116359379907606001950938285454250989 * 2 ^ n.toNat) ∧ Keep [] w w') := by
  obtain ⟨m, rfl⟩ := Int.eq_ofNat_of_zero_le h0
  exact mi m (by omega) w
theorem jv (f : Nat → Int) (hf : Wd f) (hb : vW f 9 < 7237005577332262213973186563042994240857116359379907606001950938285454250989 * 2 ^ 265) (w : World) : Rets Tryz.prog 51 [.agg (iv .u64 9 f).toArray] w (fun v w' => ∃ g, v = .agg (iv .u64 9 g).toArray ∧ (Wd g ∧ vW g 9 = vW f 9 % 7237005577332262213973186563042994240857116359379907606001950938285454250989) ∧ Keep [] w w') := by
  have hB : Keep [] w w := Keep.refl _ _
  refine ac Tryz.func51 rfl (by decide) Tryz.ntmps51 rfl (fun fin _ hfin => a5 (aZ (ad (bc (cs := iv .u64 9 f) rfl rfl) rfl ?_)))
  rintro _ w1 ⟨b1, rfl, eb1, hb1, k1, z1⟩
  have ge_b1 : w.heap.size ≤ b1 := by have := hB.size; omega
  replace hB := hB.trans k1
  clear eb1 z1
  refine ad (aj dz) rfl ?_
  rintro _ w2 ⟨b2, rfl, eb2, hb2, k2, z2⟩
  have ge_b2 : w.heap.size ≤ b2 := by have := hB.size; omega
  have ne_b1_b2 : b1 ≠ b2 := by have := hb1.lt; omega
  obtain ⟨hB, hb1⟩ := bN k2 hB hb1
  clear eb2 z2
  replace hb2 : Bk w2 b2 81 (iv .u64 9 (fun _ => 0)) := by rw [iv, bE]; exact hb2
  refine a6 (lX 1 (a5 (lY (a5 (a5 (aZ (oga rfl rfl (a6 ?_))))))))
  refine ab (bK (Γ := Int × (Nat → Int)) (fun ⟨n, g⟩ => [(1, .pointer (some ⟨b1, 0, none⟩)), (2, .pointer (some ⟨b2, 0, none⟩)), (3, .int .i64 n)]) (fun ⟨n, g⟩ W => -1 ≤ n ∧ n ≤ 264 ∧ RestI f g n ∧ Bk W b1 81 (iv .u64 9 g) ∧ Bk W b2 81 (iv .u64 9 (fun _ => 0)) ∧ Keep [] w W) (fun ⟨n, g⟩ => (n + 1).toNat) ⟨264, f⟩ ⟨rfl, rfl, rfl, trivial⟩ (⟨by decide, by decide, ⟨hf, rfl, hb⟩, hb1, hb2, hB⟩) ?_)
  rintro ⟨n, g⟩ w3 ⟨hn0, hn1, hI, hbx1, hbx2, hB⟩
  refine a9 [(1, .pointer (some ⟨b1, 0, none⟩)), (2, .pointer (some ⟨b2, 0, none⟩)), (3, .int .i64 n)] ⟨rfl, rfl, rfl, trivial⟩ ?_
  have hwd := hI.1
  refine a5 (a5 (aZ (ogm rfl rfl (a7 (ii rfl rfl) rfl (a6 (bT rfl (fun hc1 => ?_) (fun hc1 => ?_)))))))
  · -- yes
    refine af (a5 (ab (a5 ?_)))
    have gs1 := hB.size
    have lt1 := hbx1.lt
    have lt2 := hbx2.lt
    refine fv 8 [0, 1, 2, 3, 4, 5, 6] [2, 3] [] [(7, 81, List.replicate 9 (.int .u64 0))] (x := 6) rfl mixed [(1, _), (3, _), (2, _), (6, _), (7, _)] ⟨rfl, rfl, rfl, rfl, rfl, trivial⟩ (by decide +kernel) (by decide) (by decide) ?_ (fun x hx => by cases hx) rfl (fun w4 k3 => ?_)
    · simp only [List.forall_mem_cons]; exact ⟨⟨_, _, _, _, _, _, rfl, dz⟩, fun q hq => by cases hq⟩
    obtain ⟨hB, hbx1, hbx2⟩ := ca k3 hB hbx1 hbx2
    refine al 1 rfl rfl rfl rfl (fun W' kk => aa (cs' := iv .u64 9 g) jg dz rfl (Bk.s8 hbx1 kk) rfl rfl) (bu 3 rfl rfl rfl rfl rfl (bo [(12, _)] rfl rfl ⟨rfl, trivial⟩ rfl (fun w6 k5 => ?_)))
    obtain ⟨hB, hbx1, hbx2⟩ := ca k5 hB hbx1 hbx2
    refine (a8 (vs := [_]) rfl (jF n (by first | decide | omega) (by first | decide | omega) _)).mono ?_
    rintro _ w5 ⟨hh1, rfl, E1, k4⟩
    refine ⟨k4, nox, ?_⟩
    obtain ⟨hB, hbx1, hbx2⟩ := ca k4 hB hbx1 hbx2
    refine bo [(11, _), (13, _)] rfl rfl ⟨rfl, rfl, trivial⟩ rfl (fun w8 k7 => ?_)
    obtain ⟨hB, hbx1, hbx2⟩ := ca k7 hB hbx1 hbx2
    refine (a8 (vs := [_, _]) rfl (jG _ _ hwd E1.1 _)).mono ?_
    rintro _ w7 ⟨hh2, rfl, E2, k6⟩
    refine ⟨k6, nox, ?_⟩
    obtain ⟨hB, hbx1, hbx2⟩ := ca k6 hB hbx1 hbx2
    refine bu 14 rfl rfl rfl rfl rfl (al 10 rfl rfl rfl rfl (fun W' kk => bH (vs := [_, _]) rfl rfl) (al 10 rfl rfl rfl rfl (fun W' kk => bH (vs := [_, _]) rfl rfl) (gw (fun w9 k8 => ?_))))
    obtain ⟨hB, hbx1, hbx2⟩ := ca k8 hB hbx1 hbx2
    intro b3 eb3 lb1 hb3 ds1 sp1
    have ge_b3 : w.heap.size ≤ b3 := Nat.le_trans gs1 eb3
    have ne_b1_b3 : b1 ≠ b3 := Nat.ne_of_lt (Nat.lt_of_lt_of_le lt1 eb3)
    have ne_b2_b3 : b2 ≠ b3 := Nat.ne_of_lt (Nat.lt_of_lt_of_le lt2 eb3)
    replace hb3 : Bk w9 b3 81 (iv .u64 9 (fun _ => 0)) := by rw [iv, bE]; exact hb3
    refine gE (tailx [(4, _), (15, _)] rfl ⟨rfl, rfl, trivial⟩ rfl (bh (vs := iv .u64 9 hh2) dz rfl rfl rfl ai hb3 rfl) ?_)
    rintro _ w10 ⟨hb4, k9, z3⟩
    replace hbx1 := hbx1.keep k9 (nm ne_b1_b3)
    replace hbx2 := hbx2.keep k9 (nm ne_b2_b3)
    replace hB := hB.new k9 (nw ge_b3)
    clear z3
    refine oga rfl rfl (a6 (a5 (a5 (aZ (ogm rfl rfl (a7 (mT rfl) rfl (a6 (dK rfl (fun hc2 => ?_) (fun hc2 => ?_)))))))))
    · -- yes
      have hd1 := hc2
      try (simp only [Bool.and_eq_true, Bool.or_eq_true, decide_eq_true_eq, Bool.and_eq_false_iff, Bool.or_eq_false_iff, decide_eq_false_iff_not, Bool.not_eq_true', Bool.not_eq_false', Bool.not_eq_true, Bool.not_eq_false, ne_eq, Decidable.not_not] at hd1)
      refine bF rfl (aZ (ogm rfl rfl (a7 (cj rfl rfl (by omega)) rfl (oga rfl rfl (a6 (bM (Γ := Int × (Nat → Int)) ⟨n - 1, _⟩ ⟨rfl, rfl, rfl, trivial⟩ (by (try dsimp only); omega) (⟨by omega, by omega, qs (by omega) hI E1.2 (by simpa using hc2), hbx1, hbx2, hB⟩)))))))
    · -- no
      have hd2 := hc2
      try (simp only [Bool.and_eq_true, Bool.or_eq_true, decide_eq_true_eq, Bool.and_eq_false_iff, Bool.or_eq_false_iff, decide_eq_false_iff_not, Bool.not_eq_true', Bool.not_eq_false', Bool.not_eq_true, Bool.not_eq_false, ne_eq, Decidable.not_not] at hd2)
      refine af (aZ (a7 (aa (cs' := iv .u64 9 hh2) jg dz rfl hb4 rfl rfl) rfl (ae (bh (vs := iv .u64 9 hh2) dz rfl rfl rfl ai hbx1 rfl) ?_)))
      rintro _ w11 ⟨hb5, k10, z4⟩
      replace hbx2 := hbx2.keep k10 (nm (Ne.symm ne_b1_b2))
      replace hB := hB.new k10 (nw ge_b1)
      clear z4
      refine a6 (bZ (aZ (ogm rfl rfl (a7 (cj rfl rfl (by omega)) rfl (oga rfl rfl (a6 (bM (Γ := Int × (Nat → Int)) ⟨n - 1, _⟩ ⟨rfl, rfl, rfl, trivial⟩ (by (try dsimp only); omega) (⟨by omega, by omega, pT (by omega) hI E1.2 E2.1 (E2.2 (by simpa using hc2)), hb5, hbx2, hB⟩))))))))
  · -- no
    refine bF rfl (a5 (aZ (a7 (aa (cs' := iv .u64 9 g) jg dz rfl hbx1 rfl rfl) rfl (ae (bh (vs := iv .u64 9 g) dz rfl rfl rfl ai hbx2 rfl) ?_))))
    rintro _ w12 ⟨hb6, k11, z5⟩
    replace hB := hB.new k11 (nw ge_b2)
    clear z5
    refine a6 (ba hfin Tryz.results51 rfl (ak jg dz hb6 rfl)  ?_)
    exact ⟨g, rfl, pU hI (by omega), hB⟩
theorem nq {xs : List UInt8} (h : xs.length = 32) : 0 ≤ leI xs ∧ leI xs < 115792089237316195423570985008687907853269984665640564039457584007913129639936 := by
 have := da xs; rw [h] at this; exact this
theorem l9 {x : Int} (h : x < 13407807929942597099574024998205846127479365820592393377723561443721764030073546976801874298166903427690031858186486050853753882811946569946433649006084096 * 2) : x < 7237005577332262213973186563042994240857116359379907606001950938285454250989 * 2 ^ 265 := by
 have : (13407807929942597099574024998205846127479365820592393377723561443721764030073546976801874298166903427690031858186486050853753882811946569946433649006084096 * 2 : Int) ≤ 7237005577332262213973186563042994240857116359379907606001950938285454250989 * 2 ^ 265 := by rw [show (265 : Nat) = 200 + 65 from rfl, Int.pow_add]; decide
 omega
theorem rT {x y c0 : Nat → Int} {i : Nat} (hx : Wd x) (hi : i < 4) (hy : 0 ≤ vW y 5 ∧ vW y 5 < 115792089237316195423570985008687907853269984665640564039457584007913129639936) (hc : vW c0 9 < 115792089237316195423570985008687907853269984665640564039457584007913129639936) : vW c0 9 + vW x (i + 1) * vW y 5 < 13407807929942597099574024998205846127479365820592393377723561443721764030073546976801874298166903427690031858186486050853753882811946569946433649006084096 * 2 := by
 have b := i5 (f := x) (n := i + 1) (fun j hj => hx j (by omega))
 have hp : (18446744073709551616 : Int) ^ (i + 1) ≤ 115792089237316195423570985008687907853269984665640564039457584007913129639936 := by
   have : ∀ m : Fin 4, (18446744073709551616 : Int) ^ (m.val + 1) ≤ 115792089237316195423570985008687907853269984665640564039457584007913129639936 := by decide +kernel
   exact this ⟨i, hi⟩
 have h1 : vW x (i + 1) * vW y 5 ≤ 115792089237316195423570985008687907853269984665640564039457584007913129639936 * 115792089237316195423570985008687907853269984665640564039457584007913129639936 := Int.mul_le_mul (by omega) (by omega) hy.1 (by decide)
 omega
theorem mj (v1 v2 v3 : Value) (xs ys zs : List UInt8) (w : World) (hv1 : RdB w v1 xs) (hv2 : RdB w v2 ys) (hv3 : RdB w v3 zs) (hx : xs.length = 32) (hy : ys.length = 32) (hz : zs.length = 32) : Rets Tryz.prog 22 [v1, v2, v3] w (fun r w' => ∃ u, r = .tuple #[u, .int .i64 0] ∧ OwnB w' w.heap.size u (leB ((leI zs + leI xs * leI ys) % 7237005577332262213973186563042994240857116359379907606001950938285454250989) 32) ∧ Keep [] w w') := by
 have hB : Keep [] w w := Keep.refl _ _
 refine ac Tryz.func22 rfl (by decide) Tryz.ntmps22 rfl (fun fin _ hfin => a5 (aZ (oga rfl rfl (oga rfl rfl (a6 (a5 (a5 (aZ (ogm rfl rfl (a7 (cB aA rfl (by first | assumption | exact Own.rd ‹_› | exact Rd.s8 ‹_› hB | exact Own.rd (Own.s8 ‹_› hB))) rfl (a7 (dt rfl rfl) rfl (ogm rfl rfl (dO (grdT rfl rfl rfl (by simp [hx])) (bY rfl) rfl (dO (grdT rfl rfl rfl (by simp [hx])) (cB aA rfl (by first | assumption | exact Own.rd ‹_› | exact Rd.s8 ‹_› hB | exact Own.rd (Own.s8 ‹_› hB))) rfl (dO (grdT rfl rfl rfl (by simp [hx])) (dt rfl rfl) rfl (a7 (iw rfl (by simp [hx]) rfl) rfl (ogm rfl rfl (dO (grdT rfl rfl rfl (by simp [hy])) (bY rfl) rfl ?_))))))))))))))))))
 refine dO (grdT rfl rfl rfl (by simp [hy])) (cB aA rfl (by first | assumption | exact Own.rd ‹_› | exact Rd.s8 ‹_› hB | exact Own.rd (Own.s8 ‹_› hB))) rfl (dO (grdT rfl rfl rfl (by simp [hy])) (dt rfl rfl) rfl (a7 (iw rfl (by simp [hy]) rfl) rfl (a6 (a9 [(0, _), (1, _), (2, _), (30, _)] ⟨rfl, rfl, rfl, rfl, trivial⟩ (ci rfl (by omega) (af (a5 (aZ (ogm rfl rfl (ad (a8 (vs := [_]) rfl (go _ _ _ (by first | assumption | exact Own.rd ‹_› | exact Rd.s8 ‹_› hB | exact Own.rd (Own.s8 ‹_› hB)) hx)) rfl ?_))))))))))
 rintro _ w1 ⟨hh1, rfl, E1, k1⟩
 replace hB := hB.trans k1
 refine ogm rfl rfl (ad (a8 (vs := [_]) rfl (go _ _ _ (by first | assumption | exact Own.rd ‹_› | exact Rd.s8 ‹_› hB | exact Own.rd (Own.s8 ‹_› hB)) hy)) rfl ?_)
 rintro _ w2 ⟨hh2, rfl, E2, k2⟩
 replace hB := hB.trans k2
 refine ogm rfl rfl (ad (a8 (vs := [_]) rfl (go _ _ _ (by first | assumption | exact Own.rd ‹_› | exact Rd.s8 ‹_› hB | exact Own.rd (Own.s8 ‹_› hB)) hz)) rfl ?_)
 rintro _ w3 ⟨hh3, rfl, E3, k3⟩
 replace hB := hB.trans k3
 refine ad (aj dz) rfl ?_
 rintro _ w4 ⟨b1, rfl, eb1, hb1, k4, z1⟩
 have ge_b1 : w.heap.size ≤ b1 := by have := hB.size; omega
 replace hB := hB.trans k4
 clear eb1 z1
 replace hb1 : Bk w4 b1 81 (iv .u64 9 (fun _ => 0)) := by rw [iv, bE]; exact hb1
 refine ad (aj dz) rfl ?_
 rintro _ w5 ⟨b2, rfl, eb2, hb2, k5, z2⟩
 have ge_b2 : w.heap.size ≤ b2 := by have := hB.size; omega
 have ne_b1_b2 : b1 ≠ b2 := by have := hb1.lt; omega
 obtain ⟨hB, hb1⟩ := bN k5 hB hb1
 clear eb2 z2
 replace hb2 : Bk w5 b2 81 (iv .u64 9 (fun _ => 0)) := by rw [iv, bE]; exact hb2
 refine ad (aj dz) rfl ?_
 rintro _ w6 ⟨b3, rfl, eb3, hb3, k6, z3⟩
 have ge_b3 : w.heap.size ≤ b3 := by have := hB.size; omega
 have ne_b1_b3 : b1 ≠ b3 := by have := hb1.lt; omega
 have ne_b2_b3 : b2 ≠ b3 := by have := hb2.lt; omega
 obtain ⟨hB, hb1, hb2⟩ := ca k6 hB hb1 hb2
 clear eb3 z3
 replace hb3 : Bk w6 b3 81 (iv .u64 9 (fun _ => 0)) := by rw [iv, bE]; exact hb3
 refine ae (bh (vs := iv .u64 9 hh1) dz rfl rfl rfl ai hb1 rfl) ?_
 rintro _ w7 ⟨hb4, k7, z4⟩
 replace hb2 := hb2.keep k7 (nm (Ne.symm ne_b1_b2))
 replace hb3 := hb3.keep k7 (nm (Ne.symm ne_b1_b3))
 replace hB := hB.new k7 (nw ge_b1)
 clear z4
 refine ae (bh (vs := iv .u64 9 hh2) dz rfl rfl rfl ai hb2 rfl) ?_
 rintro _ w8 ⟨hb5, k8, z5⟩
 replace hb3 := hb3.keep k8 (nm (Ne.symm ne_b2_b3))
 replace hb4 := hb4.keep k8 (nm ne_b1_b2)
 replace hB := hB.new k8 (nw ge_b2)
 clear z5
 refine ae (bh (vs := iv .u64 9 hh3) dz rfl rfl rfl ai hb3 rfl) ?_
 rintro _ w9 ⟨hb6, k9, z6⟩
 replace hb4 := hb4.keep k9 (nm ne_b1_b3)
 replace hb5 := hb5.keep k9 (nm ne_b2_b3)
 replace hB := hB.new k9 (nw ge_b3)
 clear z6
 refine a6 (a9 [(8, _), (9, _), (10, _)] ⟨rfl, rfl, rfl, trivial⟩ (a5 (a5 (aZ (ogm rfl rfl (a6 (ab ?_)))))))
 have htx := qR (f := hh1) E1.2.2
 have hty := qR (f := hh2) E2.2.2
 have hmb := fun i (hi : i < 4) => rT (x := hh1) (y := hh2) (c0 := hh3) (i := i) E1.2.1 hi (by rw [hty.1, E2.1]; exact nq hy) (by rw [E3.1]; exact (nq hz).2)
 refine bK (Γ := Nat × (Nat → Int)) (fun ⟨i, g⟩ => [(8, .pointer (some ⟨b1, 0, none⟩)), (9, .pointer (some ⟨b2, 0, none⟩)), (10, .pointer (some ⟨b3, 0, none⟩)), (37, .int .i64 (i : Int))]) (fun ⟨i, g⟩ W => i ≤ 4 ∧ MaI hh1 hh2 hh3 g i ∧ Bk W b1 81 (iv .u64 9 hh1) ∧ Bk W b2 81 (iv .u64 9 hh2) ∧ Bk W b3 81 (iv .u64 9 g) ∧ Keep [] w W) (fun ⟨i, g⟩ => 4 - i) ⟨0, _⟩ ⟨rfl, rfl, rfl, rfl, trivial⟩ (⟨by decide, ⟨E3.2.1, by simp [vW]⟩, hb4, hb5, hb6, hB⟩) ?_
 rintro ⟨i, g⟩ w10 ⟨hi, hI, hbx8, hbx9, hbx10, hB⟩
 refine a9 [(8, .pointer (some ⟨b1, 0, none⟩)), (9, .pointer (some ⟨b2, 0, none⟩)), (10, .pointer (some ⟨b3, 0, none⟩)), (37, .int .i64 (i : Int))] ⟨rfl, rfl, rfl, rfl, trivial⟩ (a5 (aZ (a7 (bd rfl rfl) rfl (a6 (a5 (bT rfl (fun hc1 => ?_) (fun hc1 => ?_)))))))
 ·
  refine af (a5 (ab (a5 (aZ (ogm rfl rfl (oga rfl rfl (a6 (a5 (aZ (oga rfl rfl (a6 (a5 (a5 (aZ (ogm rfl rfl (a6 (ab (bK (Γ := Nat × (Nat → Int) × Int) (fun ⟨k, g2, c⟩ => [(8, .pointer (some ⟨b1, 0, none⟩)), (9, .pointer (some ⟨b2, 0, none⟩)), (10, .pointer (some ⟨b3, 0, none⟩)), (11, .int .i64 (i : Int)), (12, .int .u64 c), (37, .int .i64 (i : Int)), (40, .int .i64 (k : Int))]) (fun ⟨k, g2, c⟩ W => k ≤ 5 ∧ MaJ hh1 hh2 hh3 g2 i k c ∧ Bk W b1 81 (iv .u64 9 hh1) ∧ Bk W b2 81 (iv .u64 9 hh2) ∧ Bk W b3 81 (iv .u64 9 g2) ∧ Keep [] w W) (fun ⟨k, g2, c⟩ => 5 - k) ⟨0, _, 0⟩ ⟨rfl, rfl, rfl, rfl, rfl, rfl, rfl, trivial⟩ (⟨by decide, pg hI, hbx8, hbx9, hbx10, hB⟩) ?_))))))))))))))))))
  rintro ⟨k, g2, c⟩ w11 ⟨hk, hJ, hbx8, hbx9, hbx10, hB⟩
  refine a9 [(8, .pointer (some ⟨b1, 0, none⟩)), (9, .pointer (some ⟨b2, 0, none⟩)), (10, .pointer (some ⟨b3, 0, none⟩)), (11, .int .i64 (i : Int)), (12, .int .u64 c), (37, .int .i64 (i : Int)), (40, .int .i64 (k : Int))] ⟨rfl, rfl, rfl, rfl, rfl, rfl, rfl, trivial⟩ (a5 (aZ (a7 (bd rfl rfl) rfl (a6 (a5 (bT rfl (fun hc2 => ?_) (fun hc2 => ?_)))))))
  ·
   refine af (a5 (ab (a5 (aZ (ogm rfl rfl (oga rfl rfl (a6 (a5 (eL mixed (by decide +kernel) (fun w12 k10 => ?_))))))))))
   obtain ⟨hB, hbx8, hbx9, hbx10⟩ := dG k10 hB hbx8 hbx9 hbx10
   refine ao (bY rfl) rfl (ao (ar (i) aP ag rfl rfl (by omega) (by omega)) rfl (cM (e' := hh1 i) (lo := 0) (hi := 18446744073709551615) (ah au rfl hbx8 (bO (by omega))) (rfl) ((E1.2.1 _ (by omega))) rfl (fun z7 h1 r1 => ao (bY rfl) rfl (ao (ar (k) aP ag rfl rfl (by omega) (by omega)) rfl (cM (e' := hh2 k) (lo := 0) (hi := 18446744073709551615) (ah au rfl hbx9 (bO (by omega))) (rfl) ((E2.2.1 _ (by omega))) rfl (fun z8 h2 r2 => sw_call (vs := [_, _]) rfl (iV _ _ (In.wk r1 rfl) (In.wk r2 rfl) _) rfl (ao (bY rfl) rfl (cM (e' := (z7 * z8 / 18446744073709551616)) (lo := 0) (hi := 18446744073709551614) (bH (vs := [_, _]) rfl rfl) (rfl) (In.wk (bl (cP r1 r2 (by decide) (by decide)) (by decide)) rfl) rfl (fun z9 h3 r3 => cM (e' := (z7 * z8 % 18446744073709551616)) (lo := 0) (hi := 18446744073709551615) (bH (vs := [_, _]) rfl rfl) (rfl) (In.wk (bb _ (by decide)) rfl) rfl (fun z10 h4 r4 => ao (fe rfl) rfl (ao (fe rfl) rfl (cV (a6 (a9 [(8, _), (9, _), (10, _), (11, _), (12, _), (37, _), (40, _), (13, _), (14, _), (15, _)] ⟨rfl, rfl, rfl, rfl, rfl, rfl, rfl, rfl, rfl, rfl, trivial⟩ ?_))))))))))))))
   refine a5 (aZ (oga rfl rfl (a6 (a5 (aZ (ogm rfl rfl (ogm rfl rfl (a7 (eX (vs := [_, _, _]) rfl (db _ _ _ (In.wk r4 rfl) (In.wk hJ.2.1 rfl) (In.wk (cr 0) rfl))) rfl (ogm rfl rfl (an (e' := ((z10 + c + 0) % 18446744073709551616)) (lo := 0) (hi := 18446744073709551615) (bH (vs := [_, _]) rfl rfl) (rfl) (In.wk (bb _ (by decide)) rfl) rfl (fun z11 h5 r5 => an (e' := ((z10 + c + 0) / 18446744073709551616)) (lo := 0) (hi := 1) (bH (vs := [_, _]) rfl rfl) (rfl) (In.wk (bl (aw (aw r4 hJ.2.1) (cr 0)) (by decide)) rfl) rfl (fun z12 h6 r6 => oga rfl rfl (oga rfl rfl (a6 (a5 (aZ (ogm rfl rfl (ogm rfl rfl (an (e' := z9 + z12) (lo := 0) (hi := 18446744073709551615) (ay rfl rfl) (ap (aw r3 r6) rfl) (In.wk (aw r3 r6) rfl) rfl (fun z13 h7 r7 => oga rfl rfl (a6 (a9 [(8, _), (9, _), (10, _), (11, _), (37, _), (40, _), (13, _), (14, _), (15, _)] ⟨rfl, rfl, rfl, rfl, rfl, rfl, rfl, rfl, rfl, trivial⟩ (a5 (aZ (ogm rfl rfl (ogm rfl rfl (a7 (bi rfl rfl (by omega)) rfl (ogm rfl rfl (ogm rfl rfl (a7 (bi rfl rfl (by omega)) rfl ?_))))))))))))))))))))))))))))))
   refine a7 (ar (i + k) aP ag rfl rfl (by omega) (by omega)) rfl (an (e' := g2 (i + k)) (lo := 0) (hi := 18446744073709551615) (ah au rfl hbx10 (bO (by omega))) (rfl) ((hJ.1 _ (by omega))) rfl (fun z14 h8 r8 => ogm rfl rfl (a7 (eX (vs := [_, _, _]) rfl (db _ _ _ (In.wk r8 rfl) (In.wk r5 rfl) (In.wk (cr 0) rfl))) rfl (ogm rfl rfl (an (e' := ((z14 + z11 + 0) % 18446744073709551616)) (lo := 0) (hi := 18446744073709551615) (bH (vs := [_, _]) rfl rfl) (rfl) (In.wk (bb _ (by decide)) rfl) rfl (fun z15 h9 r9 => an (e' := ((z14 + z11 + 0) / 18446744073709551616)) (lo := 0) (hi := 1) (bH (vs := [_, _]) rfl rfl) (rfl) (In.wk (bl (aw (aw r8 r5) (cr 0)) (by decide)) rfl) rfl (fun z16 h10 r10 => a7 (ar (i + k) aP ag rfl rfl (by omega) (by omega)) rfl (ae (ck (v := z15) ag rfl rfl hbx10 (by omega)) ?_))))))))
   rintro _ w13 ⟨hb7, k11, z17⟩
   replace hbx8 := hbx8.keep k11 (nm ne_b1_b3)
   replace hbx9 := hbx9.keep k11 (nm ne_b2_b3)
   replace hB := hB.new k11 (nw ge_b3)
   clear z17
   refine oga rfl rfl (a6 (a9 [(8, _), (9, _), (10, _), (11, _), (37, _), (40, _), (14, _), (16, _)] ⟨rfl, rfl, rfl, rfl, rfl, rfl, rfl, rfl, trivial⟩ (aZ (ogm rfl rfl (ogm rfl rfl (an (e' := (z13 + z16) % 18446744073709551616) (lo := 0) (hi := 18446744073709551615) (ay rfl rfl) (cc rfl _) (In.wk (bb _ (by decide)) rfl) rfl (fun z18 h11 r11 => oga rfl rfl (a6 (bZ (aZ (a7 (bi rfl rfl (by omega)) rfl (ogm rfl rfl (a6 ?_)))))))))))))
   have hsum := ma_sum (a := z7) (b := z8) (c := c) (d := z14) (p := z7 * z8) (lo1 := z11) (v := z15) (c2 := z18) r1 r2 hJ.2.1 r8 rfl (by simp only [Eqn] at *; omega) (by simp only [Eqn] at *; omega) (by simp only [Eqn] at *; omega)
   rw [show z7 = _ from h1, show z8 = _ from h2, show z14 = _ from h8] at hsum
   refine bM (Γ := Nat × (Nat → Int) × Int) ⟨k + 1, _, _⟩ ⟨rfl, rfl, rfl, rfl, rfl, rfl, rfl, trivial⟩ (by (try dsimp only); omega) (⟨by omega, rV hJ (by omega) hsum.1 hsum.2.1 hsum.2.2, hbx8, hbx9, hb7, hB⟩)
  ·
   refine bF rfl (a5 (aZ (ogm rfl rfl (a7 (bi rfl rfl (by omega)) rfl (oga rfl rfl (a6 (ab (bK (Γ := Nat × (Nat → Int) × Int) (fun ⟨k3, g3, e⟩ => [(8, .pointer (some ⟨b1, 0, none⟩)), (9, .pointer (some ⟨b2, 0, none⟩)), (10, .pointer (some ⟨b3, 0, none⟩)), (12, .int .u64 e), (17, .int .i64 (k3 : Int)), (37, .int .i64 (i : Int))]) (fun ⟨k3, g3, e⟩ W => k3 ≤ 9 ∧ MaT hh1 hh2 hh3 g3 i k3 e ∧ Bk W b1 81 (iv .u64 9 hh1) ∧ Bk W b2 81 (iv .u64 9 hh2) ∧ Bk W b3 81 (iv .u64 9 g3) ∧ Keep [] w W) (fun ⟨k3, g3, e⟩ => 9 - k3) ⟨i + 5, _, _⟩ ⟨rfl, rfl, rfl, rfl, rfl, rfl, trivial⟩ (⟨by omega, pf hJ (by omega), hbx8, hbx9, hbx10, hB⟩) ?_))))))))
   rintro ⟨k3, g3, e⟩ w14 ⟨hk3, hT, hbx8, hbx9, hbx10, hB⟩
   refine a9 [(8, .pointer (some ⟨b1, 0, none⟩)), (9, .pointer (some ⟨b2, 0, none⟩)), (10, .pointer (some ⟨b3, 0, none⟩)), (12, .int .u64 e), (17, .int .i64 (k3 : Int)), (37, .int .i64 (i : Int))] ⟨rfl, rfl, rfl, rfl, rfl, rfl, trivial⟩ (a5 (a5 (aZ (ogm rfl rfl (a7 (bd rfl rfl) rfl (ogm rfl rfl (fa 84 true rfl (fun c1 hgc1 => dQ [(12, _)] (dD rfl rfl rfl hgc1) ⟨fE rfl, trivial⟩ (fun hw1 => bY rfl) rfl (dQ [(85, _)] (dD rfl rfl rfl hgc1) ⟨dJ rfl, trivial⟩ (fun hw2 => mV rfl rfl) rfl (a7 (nQ rfl rfl hgc1) rfl (a6 (dK rfl (fun hc3 => ?_) (fun hc3 => ?_)))))))))))))
   ·
    have hd1 := hc3
    try (simp only [Bool.and_eq_true, Bool.or_eq_true, decide_eq_true_eq, Bool.and_eq_false_iff, Bool.or_eq_false_iff, decide_eq_false_iff_not, Bool.not_eq_true', Bool.not_eq_false', Bool.not_eq_true, Bool.not_eq_false, ne_eq, Decidable.not_not] at hd1)
    refine af (a5 (ab (aZ (ogm rfl rfl (ogm rfl rfl (a7 (ar (k3) aP ag rfl rfl (by omega) (by omega)) rfl (an (e' := g3 k3) (lo := 0) (hi := 18446744073709551615) (ah au rfl hbx10 (bO (by omega))) (rfl) ((hT.1 _ (by omega))) rfl (fun z19 h12 r12 => ogm rfl rfl (a7 (eX (vs := [_, _, _]) rfl (db _ _ _ (In.wk r12 rfl) (In.wk hT.2.1 rfl) (In.wk (cr 0) rfl))) rfl (ogm rfl rfl (an (e' := ((z19 + e + 0) % 18446744073709551616)) (lo := 0) (hi := 18446744073709551615) (bH (vs := [_, _]) rfl rfl) (rfl) (In.wk (bb _ (by decide)) rfl) rfl (fun z20 h13 r13 => an (e' := ((z19 + e + 0) / 18446744073709551616)) (lo := 0) (hi := 1) (bH (vs := [_, _]) rfl rfl) (rfl) (In.wk (bl (aw (aw r12 hT.2.1) (cr 0)) (by decide)) rfl) rfl (fun z21 h14 r14 => a7 (ar (k3) aP ag rfl rfl (by omega) (by omega)) rfl (ae (ck (v := z20) ag rfl rfl hbx10 (by omega)) ?_))))))))))))))
    rintro _ w15 ⟨hb8, k12, z22⟩
    replace hbx8 := hbx8.keep k12 (nm ne_b1_b3)
    replace hbx9 := hbx9.keep k12 (nm ne_b2_b3)
    replace hB := hB.new k12 (nw ge_b3)
    clear z22
    refine oga rfl rfl (a6 (a9 [(8, _), (9, _), (10, _), (12, _), (17, _), (37, _)] ⟨rfl, rfl, rfl, rfl, rfl, rfl, trivial⟩ (bZ (aZ (ogm rfl rfl (a7 (bi rfl rfl (by omega)) rfl (oga rfl rfl (a6 (bM (Γ := Nat × (Nat → Int) × Int) ⟨k3 + 1, _, _⟩ ⟨rfl, rfl, rfl, rfl, rfl, rfl, trivial⟩ (by (try dsimp only); omega) (⟨by omega, rU hT (by omega) (by have a := h12; have b := h13; unfold Eqn at *; rw [b, a]) (by have a := h12; have b := h14; unfold Eqn at *; rw [b, a]), hbx8, hbx9, hb8, hB⟩))))))))))
   ·
    have hd2 := hc3
    try (simp only [Bool.and_eq_true, Bool.or_eq_true, decide_eq_true_eq, Bool.and_eq_false_iff, Bool.or_eq_false_iff, decide_eq_false_iff_not, Bool.not_eq_true', Bool.not_eq_false', Bool.not_eq_true, Bool.not_eq_false, ne_eq, Decidable.not_not] at hd2)
    refine bF rfl (bZ (aZ (a7 (bi rfl rfl (by omega)) rfl (ogm rfl rfl (a6 (bM (Γ := Nat × (Nat → Int)) ⟨i + 1, _⟩ ⟨rfl, rfl, rfl, rfl, trivial⟩ (by (try dsimp only); omega) (⟨by omega, maT_end hT (by omega) (by have := hT.2.1; unfold In at this; omega) (by have := hmb i (by omega); omega), hbx8, hbx9, hbx10, hB⟩)))))))
 ·
  refine bF rfl (a5 (aZ (a7 (aa (cs' := iv .u64 9 g) jg dz rfl hbx10 rfl rfl) rfl ?_)))
  obtain rfl : i = 4 := by omega
  have hmv : vW g 9 = leI zs + leI xs * leI ys := by
   have e := hI.2
   rw [htx.2, hty.1, E1.1, E2.1, E3.1] at e
   exact e
  refine ad (a8 (vs := [_]) rfl (jv _ hI.1 (l9 (by have := hmb 3 (by decide); rw [← hI.2] at this; exact this)) _)) rfl ?_
  rintro _ w16 ⟨hh4, rfl, E4, k13⟩
  replace hB := hB.trans k13
  refine ad (a8 (vs := [_]) rfl (l7 _ E4.1 _)) rfl ?_
  rintro v1 w17 ⟨o1, k14⟩
  have gl_o1 := hB.size
  replace hB := hB.trans k14
  refine oga rfl rfl (oga rfl rfl (a6 (eS hfin Tryz.results22 rfl rfl ?_)))
  have e := E4.2
  rw [hmv] at e
  rw [e] at o1
  exact ⟨_, rfl, o1.lo gl_o1, hB⟩
theorem small64 {xs : List UInt8} (h : xs.length ≤ 64) : 0 ≤ leI xs ∧ leI xs < 13407807929942597099574024998205846127479365820592393377723561443721764030073546976801874298166903427690031858186486050853753882811946569946433649006084096 := by
 have := da xs
 refine ⟨this.1, Int.lt_of_lt_of_le this.2 ?_⟩
 have e : (256 : Int) ^ xs.length ≤ 256 ^ 64 := by
   have e : ((256 ^ xs.length : Nat) : Int) ≤ ((256 ^ 64 : Nat) : Int) := Int.ofNat_le.2 (Nat.pow_le_pow_right (show 0 < 256 by decide) h)
   rw [Int.natCast_pow, Int.natCast_pow] at e; exact e
 exact Int.le_trans e (by decide +kernel)
theorem l6 (v : Value) (xs : List UInt8) (w : World) (hv : RdB w v xs) (hx : xs.length ≤ 64) : Rets Tryz.prog 41 [v] w (fun r w' => ∃ u, r = .tuple #[u, .int .i64 0] ∧ OwnB w' w.heap.size u (leB (leI xs % 7237005577332262213973186563042994240857116359379907606001950938285454250989) 32) ∧ Keep [] w w') := by
 have hB : Keep [] w w := Keep.refl _ _
 refine ac Tryz.func41 rfl (by decide) Tryz.ntmps41 rfl (fun fin _ hfin => a5 (aZ (oga rfl rfl (oga rfl rfl (a6 (a5 (a5 (aZ (ogm rfl rfl (a7 (cB aA rfl (by first | assumption | exact Own.rd ‹_› | exact Rd.s8 ‹_› hB | exact Own.rd (Own.s8 ‹_› hB))) rfl (a7 (mV rfl rfl) rfl (a6 (ci rfl (by omega) (af (a5 (aZ (ogm rfl rfl (ad (a8 (vs := [_]) rfl (jw _ _ _ (by first | assumption | exact Own.rd ‹_› | exact Rd.s8 ‹_› hB | exact Own.rd (Own.s8 ‹_› hB)) hx)) rfl ?_))))))))))))))))))
 rintro _ w1 ⟨hh1, rfl, E1, k1⟩
 replace hB := hB.trans k1
 refine ad (a8 (vs := [_]) rfl (jv _ E1.2.1 (l9 (by rw [E1.1]; have := small64 hx; omega)) _)) rfl ?_
 rintro _ w2 ⟨hh2, rfl, E2, k2⟩
 replace hB := hB.trans k2
 refine ad (a8 (vs := [_]) rfl (l7 _ E2.1 _)) rfl ?_
 rintro v1 w3 ⟨o1, k3⟩
 have gl_o1 := hB.size
 replace hB := hB.trans k3
 refine oga rfl rfl (oga rfl rfl (a6 (eS hfin Tryz.results41 rfl rfl ?_)))
 have e := E2.2
 rw [E1.1] at e
 rw [e] at o1
 exact ⟨_, rfl, o1.lo gl_o1, hB⟩
theorem ml (v : Value) (xs : List UInt8) (w : World) (hv : RdB w v xs) : Rets Tryz.prog 26 [v] w (fun r w' => r = .bool (decide (xs.length = 32) && decide (leI xs < 7237005577332262213973186563042994240857116359379907606001950938285454250989)) ∧ Keep [] w w') := by
  have hB : Keep [] w w := Keep.refl _ _
  refine ac Tryz.func26 rfl (by decide) Tryz.ntmps26 rfl (fun fin _ hfin => a5 (aZ (oga rfl rfl (a6 (a5 (a5 (aZ (ogm rfl rfl ?_))))))))
  refine a7 (cB aA rfl (by first | assumption | exact Own.rd (by assumption) | exact Rd.s8 (by assumption) hB | exact Own.rd (Own.s8 (by assumption) hB))) rfl (a7 (dt rfl rfl) rfl (a6 (bT rfl (fun hc1 => ?_) (fun hc1 => ?_))))
  · -- yes
    refine a5 (aZ (oga rfl rfl (a6 (bG hfin Tryz.results26 rfl ?_))))
    exact ⟨by rw [decide_eq_false (show ¬ (xs.length = 32) from by omega)]; rfl, hB⟩
  · -- no
    refine af (a5 (aZ (ogm rfl rfl (ad (a8 (vs := [_]) rfl (go _ _ _ (by first | assumption | exact Own.rd (by assumption) | exact Rd.s8 (by assumption) hB | exact Own.rd (Own.s8 (by assumption) hB)) (by omega))) rfl ?_))))
    rintro _ w1 ⟨hh1, rfl, E1, k1⟩
    replace hB := hB.trans k1
    refine ad (a8 (vs := [_]) rfl (jF 0 (by first | decide | omega) (by first | decide | omega) _)) rfl ?_
    rintro _ w2 ⟨hh2, rfl, E2, k2⟩
    replace hB := hB.trans k2
    refine ad (a8 (vs := [_, _]) rfl (jG _ _ E1.2.1 E2.1 _)) rfl ?_
    rintro _ w3 ⟨hh3, rfl, E3, k3⟩
    replace hB := hB.trans k3
    refine ogm rfl rfl (a7 (bH (vs := [_, _]) rfl rfl) rfl (a7 (bH (vs := [_, _]) rfl rfl) rfl (ad (aj dz) rfl ?_)))
    rintro _ w4 ⟨b1, rfl, eb1, hb1, k4, z1⟩
    have ge_b1 : w.heap.size ≤ b1 := by have := hB.size; omega
    replace hB := hB.trans k4
    clear eb1 z1
    replace hb1 : Bk w4 b1 81 (iv .u64 9 (fun _ => 0)) := by rw [iv, bE]; exact hb1
    refine ae (bh (vs := iv .u64 9 hh3) dz rfl rfl rfl ai hb1 rfl) ?_
    rintro _ w5 ⟨hb2, k5, z2⟩
    replace hB := hB.new k5 (nw ge_b1)
    clear z2
    refine oga rfl rfl (a6 (a9 [(4, _)] ⟨rfl, trivial⟩ (a5 (aZ (ogm rfl rfl (a7 (mT rfl) rfl (oga rfl rfl (a6 ?_))))))))
    refine bG hfin Tryz.results26 rfl ?_
    have e1 := E2.2
    rw [show (2 : Int) ^ (0 : Int).toNat = 1 from rfl, Int.mul_one] at e1
    refine ⟨congrArg Value.bool ?_, hB⟩
    rw [e1, E1.1, decide_eq_true (show xs.length = 32 from by omega), Bool.true_and]
    by_cases h : leI xs < 7237005577332262213973186563042994240857116359379907606001950938285454250989
    · rw [decide_eq_true h, decide_eq_false (show ¬ (7237005577332262213973186563042994240857116359379907606001950938285454250989 ≤ leI xs) from by omega)]; rfl
    · rw [decide_eq_false h, decide_eq_true (show 7237005577332262213973186563042994240857116359379907606001950938285454250989 ≤ leI xs from by omega)]; rfl
end Go.Proofs.YtllmbkmghmmhfaaGreatDoor.W
namespace Go.Fld
open Go Go.Eng Go.Ed Go.Byt
def vB (f : Nat → Int) : Nat → Int
 | 0 => 0
 | n + 1 => vB f n + f n * 256 ^ n
theorem iK (f : Nat → Int) {i : Nat} (v : Int) : ∀ {n : Nat}, n ≤ i → vB (upd f i v) n = vB f n
 | 0, _ => rfl
 | n + 1, h => by rw [vB, vB, iK f v (n := n) (by omega), av f v (by omega)]
theorem vB_zero (n : Nat) : vB (fun _ => 0) n = 0 := by
  induction n with
  | zero => rfl
  | succ n ih => rw [vB, ih]; simp
theorem powB (n : Nat) : (0 : Int) < 256 ^ n := Int.pow_pos (by decide)
def Dg (f : Nat → Int) (n : Nat) : Prop := ∀ j, j < n → 0 ≤ f j ∧ f j ≤ 255
theorem jr {f : Nat → Int} : ∀ {n : Nat}, Dg f n → 0 ≤ vB f n ∧ vB f n < 256 ^ n
 | 0, _ => by simp [vB]
 | n + 1, h => by
   have ih := jr (n := n) (fun j hj => h j (by omega))
   have hn := h n (by omega)
   have hp := powB n
   rw [vB, Int.pow_succ]
   have h1 : 0 ≤ f n * 256 ^ n := Int.mul_nonneg hn.1 (by omega)
   have h2 : f n * 256 ^ n ≤ 255 * 256 ^ n := Int.mul_le_mul_of_nonneg_right hn.2 (by omega)
   generalize f n * 256 ^ n = q at *
   generalize (256 : Int) ^ n = p at *
   omega
theorem ft (f : Nat → Int) (n : Nat) : ∀ m, vB f (n + m) = vB f n + 256 ^ n * vB (fun j => f (n + j)) m
  | 0 => by simp [vB]
  | m + 1 => by
    rw [← Nat.add_assoc, vB, ft f n m, vB, Int.pow_add, Int.mul_add]
    generalize (256 : Int) ^ n = P
    generalize (256 : Int) ^ m = Q
    grind -lia -linarith
theorem qU (xs : List UInt8) : ∀ n, n ≤ xs.length → vB (fun j => gb xs (j : Int)) n = leI (xs.take n)
  | 0, _ => by simp [vB, leI]
  | n + 1, h => by rw [vB, qU xs n (by omega), mG xs n (by omega)]
def LsI (a b o : Nat → Int) (c : Int) (i : Nat) : Prop := (0 ≤ c ∧ c ≤ 1) ∧ Dg o i ∧ vB a i - vB b i = vB o i - c * 256 ^ i
theorem ph (a b o : Nat → Int) : LsI a b o 0 0 := ⟨by decide, fun j hj => by omega, by simp [vB]⟩
theorem sA {o : Nat → Int} {i : Nat} {v : Int} (h : Dg o i) (h0 : 0 ≤ v) (h1 : v ≤ 255) : Dg (upd o i v) (i + 1) := by
 intro j hj
 by_cases e : j = i
 · subst e; rw [bj]; exact ⟨h0, h1⟩
 · rw [av o v e]; exact h j (by omega)
theorem mF {a b o : Nat → Int} {c v e : Int} {i : Nat} (h : LsI a b o c i) (ha : 0 ≤ a i ∧ a i ≤ 255) (hb : 0 ≤ b i ∧ b i ≤ 255) (hv : v = a i - b i - c + e * 256) (h0 : 0 ≤ v) (h1 : v ≤ 255) (he : 0 ≤ e ∧ e ≤ 1) : LsI a b (upd o i v) e (i + 1) := by
 obtain ⟨hc, hd, h2⟩ := h
 refine ⟨he, sA hd h0 h1, ?_⟩
 rw [vB, vB, vB, iK o v (Nat.le_refl _), bj, Int.pow_succ]
 subst hv
 generalize (256 : Int) ^ i = P at *
 grind -lia -linarith
theorem lsI_end {a b o : Nat → Int} {c : Int} {n : Nat} (ha : Dg a n) (hb : Dg b n) (h : LsI a b o c n) : decide (c = 0) = decide (vB b n ≤ vB a n) ∧ Dg o n ∧ (vB b n ≤ vB a n → vB o n = vB a n - vB b n) := by
 obtain ⟨hc, hd, h2⟩ := h
 have b1 := jr hd
 have hp := powB n
 have hc2 : c = 0 ∨ c = 1 := by omega
 refine ⟨?_, hd, fun hle => ?_⟩
 · rcases hc2 with rfl | rfl
   · rw [Int.zero_mul] at h2; rw [decide_eq_true rfl, decide_eq_true (by omega)]
   · rw [Int.one_mul] at h2; rw [decide_eq_false (by decide), decide_eq_false (by omega)]
 · rcases hc2 with rfl | rfl
   · rw [Int.zero_mul] at h2; omega
   · rw [Int.one_mul] at h2; omega
def DbI (x y : Nat → Int) (c0 c : Int) (k : Nat) : Prop := (0 ≤ c ∧ c ≤ 1) ∧ (∀ j, k ≤ j → y j = x j) ∧ Dg y k ∧ 2 * vB x k + c0 = vB y k + c * 256 ^ k
theorem qA {x : Nat → Int} {c0 : Int} (h : 0 ≤ c0 ∧ c0 ≤ 1) : DbI x x c0 c0 0 := ⟨h, fun _ _ => rfl, fun j hj => by omega, by simp [vB]⟩
theorem sE {x y : Nat → Int} {c0 c v : Int} {k : Nat} (h : DbI x y c0 c k) (hx : 0 ≤ x k ∧ x k ≤ 255) (hv : v = 2 * y k + c) : DbI x (upd y k (v % 256)) c0 (v / 256) (k + 1) := by
 obtain ⟨hc, hy, hd, h2⟩ := h
 rw [hy k (Nat.le_refl _)] at hv
 refine ⟨by omega, fun j hj => ?_, sA hd (by omega) (by omega), ?_⟩
 · rw [av y _ (by omega)]; exact hy j (by omega)
 · rw [vB, vB, iK y _ (Nat.le_refl _), bj, Int.pow_succ]
   have hq : v = v % 256 + 256 * (v / 256) := by omega
   generalize v % 256 = r at *
   generalize v / 256 = q at *
   generalize (256 : Int) ^ k = P at *
   subst hq
   grind -lia -linarith
theorem dbI_end {x y : Nat → Int} {c0 c : Int} (h : DbI x y c0 c 34) (hc0 : 0 ≤ c0 ∧ c0 ≤ 1) (hb : vB x 34 < 7237005577332262213973186563042994240857116359379907606001950938285454250989) : Dg y 34 ∧ vB y 34 = 2 * vB x 34 + c0 := by
 obtain ⟨hc, hy, hd, h2⟩ := h
 have b1 := jr hd
 refine ⟨hd, ?_⟩
 have hc2 : c = 0 ∨ c = 1 := by omega
 rcases hc2 with rfl | rfl
 · rw [Int.zero_mul] at h2; omega
 · rw [Int.one_mul, show (256 : Int) ^ 34 = 7588550360256754183279148073529370729071901715047420004889892225542594864082845696 from by decide +kernel] at h2
   omega
theorem vB_bit {f : Nat → Int} {n i b : Nat} (h : Dg f n) (hi : i < n) (hb : b < 8) : vB f n / 2 ^ (8 * i + b) = 2 * (vB f n / 2 ^ (8 * i + b + 1)) + f i / 2 ^ b % 2 := by
 have hs := ft f i (n - i)
 rw [show i + (n - i) = n from by omega] at hs
 have hs2 := ft (fun j => f (i + j)) 1 (n - i - 1)
 rw [show 1 + (n - i - 1) = n - i from by omega] at hs2
 have hl := jr (f := f) (n := i) (fun j hj => h j (by omega))
 have e1 : vB (fun j => f (i + j)) 1 = f i := by simp [vB]
 rw [e1] at hs2
 rw [hs2] at hs
 generalize hR : vB (fun j => f (i + (1 + j))) (n - i - 1) = R at hs
 have hpi : (256 : Int) ^ i = 2 ^ (8 * i) := by rw [Int.pow_mul]; rfl
 rw [hpi] at hs hl
 have hdiv : vB f n / 2 ^ (8 * i) = f i + 256 * R := by
   rw [hs, show vB f i + 2 ^ (8 * i) * (f i + 256 ^ 1 * R) = vB f i + (f i + 256 * R) * 2 ^ (8 * i) from by rw [Int.pow_succ, Int.pow_zero, Int.one_mul, Int.mul_comm ((2 : Int) ^ (8 * i))], Int.add_mul_ediv_right _ _ (Int.ne_of_gt (Int.pow_pos (by decide))), Int.ediv_eq_zero_of_lt hl.1 hl.2, Int.zero_add]
 have hA : vB f n / 2 ^ (8 * i + b) = (f i + 256 * R) / 2 ^ b := by rw [Int.pow_add, ← Int.ediv_ediv_of_nonneg (Int.pow_nonneg (by decide)), hdiv]
 have hB : vB f n / 2 ^ (8 * i + b + 1) = (f i + 256 * R) / 2 ^ (b + 1) := by rw [Nat.add_assoc, Int.pow_add, ← Int.ediv_ediv_of_nonneg (Int.pow_nonneg (by decide)), hdiv]
 rw [hA, hB]
 have hf := h i hi
 generalize f i = t at *
 have h8 : b = 0 ∨ b = 1 ∨ b = 2 ∨ b = 3 ∨ b = 4 ∨ b = 5 ∨ b = 6 ∨ b = 7 := by omega
 rcases h8 with rfl | rfl | rfl | rfl | rfl | rfl | rfl | rfl <;> simp only [Nat.zero_add, Nat.reduceAdd, Int.pow_zero, Int.reducePow] <;> omega
def RsI (D : Int) (x : Nat → Int) (p : Nat) : Prop := Dg x 34 ∧ vB x 34 = D / 2 ^ p % 7237005577332262213973186563042994240857116359379907606001950938285454250989
theorem rsI_lt {D : Int} {x : Nat → Int} {p : Nat} (h : RsI D x p) : 0 ≤ vB x 34 ∧ vB x 34 < 7237005577332262213973186563042994240857116359379907606001950938285454250989 := by
 rw [h.2]; exact ⟨Int.emod_nonneg _ (by decide), Int.emod_lt_of_pos _ (by decide)⟩
theorem pN {f : Nat → Int} {n : Nat} (h : Dg f n) : RsI (vB f n) (fun _ => 0) (8 * n) := by
  have hb := jr h
  refine ⟨fun j _ => (show (0 : Int) ≤ 0 ∧ (0 : Int) ≤ 255 by decide), ?_⟩
  rw [vB_zero, Int.pow_mul, show (2 : Int) ^ 8 = 256 from rfl, Int.ediv_eq_zero_of_lt hb.1 hb.2]; rfl
theorem lk {D : Int} {x y z : Nat → Int} {p : Nat} {c : Int} (h : RsI D x (p + 1)) (hD : D / 2 ^ p = 2 * (D / 2 ^ (p + 1)) + c) (hy : Dg y 34 ∧ vB y 34 = 2 * vB x 34 + c) (hc : 0 ≤ c ∧ c ≤ 1) (hz : 7237005577332262213973186563042994240857116359379907606001950938285454250989 ≤ vB y 34 → Dg z 34 ∧ vB z 34 = vB y 34 - 7237005577332262213973186563042994240857116359379907606001950938285454250989) :
   (7237005577332262213973186563042994240857116359379907606001950938285454250989 ≤ vB y 34 → RsI D z p) ∧ (¬ (7237005577332262213973186563042994240857116359379907606001950938285454250989 ≤ vB y 34) → RsI D y p) := by
 obtain ⟨h1, h2⟩ := h
 have hq : D / 2 ^ p % 7237005577332262213973186563042994240857116359379907606001950938285454250989 = (2 * vB x 34 + c) % 7237005577332262213973186563042994240857116359379907606001950938285454250989 := by
   rw [hD, h2]; omega
 have hb : 0 ≤ vB x 34 ∧ vB x 34 < 7237005577332262213973186563042994240857116359379907606001950938285454250989 := by rw [h2]; exact ⟨Int.emod_nonneg _ (by decide), Int.emod_lt_of_pos _ (by decide)⟩
 refine ⟨fun hle => ⟨(hz hle).1, ?_⟩, fun hlt => ⟨hy.1, ?_⟩⟩
 · rw [(hz hle).2, hq]; omega
 · rw [hq]; omega
theorem rsI_end {D : Int} {x : Nat → Int} (h : RsI D x 0) : Dg x 34 ∧ vB x 34 = D % 7237005577332262213973186563042994240857116359379907606001950938285454250989 := ⟨h.1, by rw [h.2]; simp⟩
theorem rY {x : Nat → Int} {v : Int} {m : Nat} (h : Dg x m) (hv : vB x m = v) {i : Nat} (hi : i < m) : v / 256 ^ i % 256 = x i := by
 have hs := ft x i (m - i)
 rw [show i + (m - i) = m from by omega, hv] at hs
 have hs2 := ft (fun j => x (i + j)) 1 (m - i - 1)
 rw [show 1 + (m - i - 1) = m - i from by omega] at hs2
 have e1 : vB (fun j => x (i + j)) 1 = x i := by simp [vB]
 rw [e1] at hs2
 rw [hs2] at hs
 generalize vB (fun j => x (i + (1 + j))) (m - i - 1) = R at hs
 have hl := jr (f := x) (n := i) (fun j hj => h j (by omega))
 have hd : v / 256 ^ i = x i + 256 * R := by
   rw [hs, show vB x i + 256 ^ i * (x i + 256 ^ 1 * R) = vB x i + (x i + 256 * R) * 256 ^ i from by rw [Int.pow_succ, Int.pow_zero, Int.one_mul, Int.mul_comm ((256 : Int) ^ i)], Int.add_mul_ediv_right _ _ (Int.ne_of_gt (powB i)), Int.ediv_eq_zero_of_lt hl.1 hl.2, Int.zero_add]
 have hx := h i hi
 rw [hd]; omega
def ordL : List Int := [237, 211, 245, 92, 26, 99, 18, 88, 214, 156, 247, 162, 222, 249, 222, 20, 0, 0, 0, 0, 0, 0, 0, 0, 0, 0, 0, 0, 0, 0, 0, 16, 0, 0]
theorem ordL_dg : Dg (vecN ordL) 34 := by
 have : ∀ j : Fin 34, 0 ≤ vecN ordL j.val ∧ vecN ordL j.val ≤ 255 := by decide +kernel
 exact fun j hj => this ⟨j, hj⟩
theorem fO : vB (vecN ordL) 34 = 7237005577332262213973186563042994240857116359379907606001950938285454250989 := by decide +kernel
theorem kt : ∀ (n : Int) (k i : Nat), i < k → (leB n k)[i]? = some (UInt8.ofNat (n / 256 ^ i % 256).toNat)
 | n, 0, i, h => by omega
 | n, k + 1, 0, _ => by simp [leB]
 | n, k + 1, i + 1, h => by
   rw [leB, List.getElem?_cons_succ, kt (n / 256) k i (by omega), Int.pow_succ, Int.mul_comm, ← Int.ediv_ediv_of_nonneg (by decide)]
theorem qH {xs : List UInt8} (h : xs.length = 32) : leB (leI xs % 7237005577332262213973186563042994240857116359379907606001950938285454250989) 32 = xs ↔ leI xs < 7237005577332262213973186563042994240857116359379907606001950938285454250989 := by
 have hb := da xs
 rw [h] at hb
 have hm := Int.emod_nonneg (leI xs) (show (7237005577332262213973186563042994240857116359379907606001950938285454250989 : Int) ≠ 0 by decide)
 have hm2 := Int.emod_lt_of_pos (leI xs) (show (0 : Int) < 7237005577332262213973186563042994240857116359379907606001950938285454250989 by decide)
 have hp : (7237005577332262213973186563042994240857116359379907606001950938285454250989 : Int) < 256 ^ 32 := by decide +kernel
 constructor
 · intro e
   have e2 := hC 32 (leI xs % 7237005577332262213973186563042994240857116359379907606001950938285454250989) hm (by omega)
   rw [e] at e2; omega
 · intro hlt
   rw [Int.emod_eq_of_lt hb.1 hlt]
   have := oC xs; rw [h] at this; exact this
theorem and1 {x : Int} (h0 : 0 ≤ x) (h1 : x < 9223372036854775808) : bits .and .i64 x 1 = x % 2 := je 1 (by decide) h0 h1
theorem and255 {x : Int} (h0 : 0 ≤ x) (h1 : x < 9223372036854775808) : bits .and .i64 x 255 = x % 256 := je 8 (by decide) h0 h1
theorem bit01 (x : Int) : 0 ≤ x % 2 ∧ x % 2 ≤ 1 := by omega
theorem shr_bd {x : Int} (b : Nat) (h0 : 0 ≤ x) (h1 : x ≤ 255) : 0 ≤ x / 2 ^ b ∧ x / 2 ^ b < 9223372036854775808 :=
 ⟨Int.ediv_nonneg h0 (Int.pow_nonneg (by decide)), by have := Int.ediv_le_self (2 ^ b) h0; omega⟩
theorem byte_of {x : Int} (h : 0 ≤ x ∧ x ≤ 255) : IntKind.u8.wrap x = ((UInt8.ofNat x.toNat).toNat : Int) := by
 rw [IntKind.wrap_u8]; simp; omega
theorem rZ {x : Nat → Int} {v : Int} {i m k : Nat} (h : Dg x m) (hv : vB x m = v) (hi : i < m) (hk : i < k) : (leB v k).take i ++ [UInt8.ofNat (x i).toNat] = (leB v k).take (i + 1) := by
 rw [List.take_add_one, kt v k i hk, rY h hv hi]; rfl
end Go.Fld
namespace Go.Proofs.YtllmbkmghmmhfaaGreatDoor.W
open Go Go.Eng Go.Byt
open Go.Fld Go.Ed
theorem nX (w : World) : Rets Tryz.prog 90 [] w (fun v w' => Own w' w.heap.size 3 1 v 34 (iv .i64 34 (vecN ordL)) ∧ Keep [] w w') := by
 have hB : Keep [] w w := Keep.refl _ _
 refine ac Tryz.func90 rfl (by decide) Tryz.ntmps90 rfl (fun fin _ hfin => a5 (aZ (oga rfl rfl (a6 (a5 (aZ (ad (dv (m := 16) (xs := [.const (.int .i64 (237)), .const (.int .i64 (211)), .const (.int .i64 (245)), .const (.int .i64 (92)), .const (.int .i64 (26)), .const (.int .i64 (99)), .const (.int .i64 (18)), .const (.int .i64 (88)), .const (.int .i64 (214)), .const (.int .i64 (156)), .const (.int .i64 (247)), .const (.int .i64 (162)), .const (.int .i64 (222)), .const (.int .i64 (249)), .const (.int .i64 (222)), .const (.int .i64 (20))]) (vs := [_, _, _, _, _, _, _, _, _, _, _, _, _, _, _, _]) aI cU (by decide) rfl rfl rfl (by simp only [List.forall_mem_cons]; exact ⟨rfl, rfl, rfl, rfl, rfl, rfl, rfl, rfl, rfl, rfl, rfl, rfl, rfl, rfl, rfl, rfl, fun v hv => by cases hv⟩) (by decide)) rfl ?_)))))))
 rintro v1 w1 ⟨o1, nn1, lb1, k1, z1⟩
 have gl_o1 := hB.size
 replace hB := hB.trans k1
 refine oga rfl rfl (a6 (a5 (ab ?_)))
 replace o1 : Own w1 w.heap.size 3 1 v1 (16 + 0) (([.int .i64 237, .int .i64 211, .int .i64 245, .int .i64 92, .int .i64 26, .int .i64 99, .int .i64 18, .int .i64 88, .int .i64 214, .int .i64 156, .int .i64 247, .int .i64 162, .int .i64 222, .int .i64 249, .int .i64 222, .int .i64 20] : List Value) ++ List.replicate 0 (Value.int .i64 0)) := o1.lo gl_o1
 refine bK (Γ := Nat × Value) (fun ⟨j, q⟩ => [(1, q)]) (fun ⟨j, q⟩ W => j ≤ 18 ∧ Own W w.heap.size 3 1 q (16 + j) (([.int .i64 237, .int .i64 211, .int .i64 245, .int .i64 92, .int .i64 26, .int .i64 99, .int .i64 18, .int .i64 88, .int .i64 214, .int .i64 156, .int .i64 247, .int .i64 162, .int .i64 222, .int .i64 249, .int .i64 222, .int .i64 20] : List Value) ++ List.replicate j (Value.int .i64 0)) ∧ Keep [] w W) (fun ⟨j, q⟩ => 18 - j) ⟨0, v1⟩ ⟨rfl, trivial⟩ (⟨by omega, o1, hB⟩) ?_
 rintro ⟨j, q⟩ w2 ⟨hj0, ow, hB⟩
 refine a9 [(1, q)] ⟨rfl, trivial⟩ (a5 (a5 (aZ (ogm rfl rfl (a7 (cB aI rfl ow.rd) rfl (a7 (bd rfl rfl) rfl (a6 (bT rfl (fun hc1 => ?_) (fun hc1 => ?_)))))))))
 ·
  refine af (ab (aZ (ogm rfl rfl (ad (dv (m := 1) (xs := [.const (.int .i64 (0))]) (vs := [_]) aI cU (by decide) rfl rfl rfl (by first | (simp; done) | (intro v hv; rw [List.mem_singleton] at hv; subst hv; rfl)) (by decide)) rfl ?_))))
  rintro v2 w3 ⟨o2, nn2, lb2, k2, z2⟩
  replace ow := ow.s8 k2
  replace hB := hB.trans k2
  refine ad (m7 (ys := [.int .i64 0]) aI cU (by decide) rfl rfl ow rfl o2.rd (by intro c hc; rw [List.mem_singleton] at hc; subst hc; rfl) (by constructor <;> omega) (by have := hB.size; omega)) rfl ?_
  rintro v3 w4 ⟨o3, k3, _, _⟩
  replace hB := hB.new k3 (fun x hx => .inl (ow.blk x hx).1)
  refine oga rfl rfl (a6 (bZ (bM (Γ := Nat × Value) ⟨j + 1, v3⟩ ⟨rfl, trivial⟩ (by (try dsimp only); omega) (⟨by omega, by rw [List.replicate_succ', ← List.append_assoc]; exact o3, hB⟩))))
 ·
  refine bF rfl (a5 (aZ ?_))
  obtain rfl : j = 18 := by omega
  refine ogm rfl rfl (a7 (bk aI cU rfl ow.rd rfl (by omega)) rfl (ae (eY (j := 31) cU rfl rfl rfl ow (by decide)) ?_))
  rintro _ w5 ⟨o4, k4, _⟩
  replace hB := hB.new k4 (fun x hx => .inl (ow.blk x hx).1)
  refine a6 (a5 (aZ (ogm rfl rfl (oga rfl rfl (a6 (bG hfin Tryz.results90 rfl ?_))))))
  have e : (([.int .i64 237, .int .i64 211, .int .i64 245, .int .i64 92, .int .i64 26, .int .i64 99, .int .i64 18, .int .i64 88, .int .i64 214, .int .i64 156, .int .i64 247, .int .i64 162, .int .i64 222, .int .i64 249, .int .i64 222, .int .i64 20] : List Value) ++ List.replicate 18 (Value.int .i64 0)).set 31 (.int .i64 16) = iv .i64 34 (vecN ordL) := by kernel_rfl
  rw [e] at o4
  exact ⟨o4, hB⟩
theorem px (va vb : Value) (a b : Nat → Int) (w : World) (ha : Rd w 1 va 34 (iv .i64 34 a)) (hb : Rd w 1 vb 34 (iv .i64 34 b)) (hda : Dg a 34) (hdb : Dg b 34) : Rets Tryz.prog 91 [va, vb] w (fun r w' => ∃ u g, r = .tuple #[u, .bool (decide (vB b 34 ≤ vB a 34))] ∧ Own w' w.heap.size 3 1 u 34 (iv .i64 34 g) ∧ Dg g 34 ∧ (vB b 34 ≤ vB a 34 → vB g 34 = vB a 34 - vB b 34) ∧ Keep [] w w') := by
 have hB : Keep [] w w := Keep.refl _ _
 refine ac Tryz.func91 rfl (by decide) Tryz.ntmps91 rfl (fun fin _ hfin => a5 (aZ (oga rfl rfl (oga rfl rfl (a6 (a5 (aZ (ad (nZ aI cU rfl rfl (by omega) (by constructor <;> omega)) rfl ?_))))))))
 rintro v1 w1 ⟨o1, nn1, lb1, k1, z1⟩
 have go_v1 := fun x hx => (show w.heap.size ≤ x from by have h1 := (o1.blk x hx).1; have h2 := hB.size; omega)
 have gl_o1 := hB.size
 replace hB := hB.trans k1
 replace o1 : Own w1 _ 3 1 v1 34 [.int .i64 0, .int .i64 0, .int .i64 0, .int .i64 0, .int .i64 0, .int .i64 0, .int .i64 0, .int .i64 0, .int .i64 0, .int .i64 0, .int .i64 0, .int .i64 0, .int .i64 0, .int .i64 0, .int .i64 0, .int .i64 0, .int .i64 0, .int .i64 0, .int .i64 0, .int .i64 0, .int .i64 0, .int .i64 0, .int .i64 0, .int .i64 0, .int .i64 0, .int .i64 0, .int .i64 0, .int .i64 0, .int .i64 0, .int .i64 0, .int .i64 0, .int .i64 0, .int .i64 0, .int .i64 0] := o1
 refine oga rfl rfl (a6 (a5 (aZ (oga rfl rfl (a6 (a5 (a5 (aZ (oga rfl rfl (a6 (ab ?_)))))))))))
 have om : Own w1 w.heap.size 3 1 v1 34 (iv .i64 34 (fun _ => 0)) := o1.lo gl_o1
 refine bK (Γ := Nat × (Nat → Int) × Int) (fun ⟨i, g, c⟩ => [(0, va), (1, vb), (6, v1), (7, .int .i64 c), (8, .int .i64 (i : Int))]) (fun ⟨i, g, c⟩ W => i ≤ 34 ∧ LsI a b g c i ∧ Own W w.heap.size 3 1 v1 34 (iv .i64 34 g) ∧ Keep [] w W) (fun ⟨i, g, c⟩ => 34 - i) ⟨0, _, 0⟩ ⟨rfl, rfl, rfl, rfl, rfl, trivial⟩ (⟨by omega, ph _ _ _, om, hB⟩) ?_
 rintro ⟨i, g, c⟩ w2 ⟨hi0, hI, ow, hB⟩
 refine a9 [(0, va), (1, vb), (6, v1), (7, .int .i64 c), (8, .int .i64 (i : Int))] ⟨rfl, rfl, rfl, rfl, rfl, trivial⟩ (a5 (a5 (aZ (ogm rfl rfl (a7 (bd rfl rfl) rfl (a6 (bT rfl (fun hc1 => ?_) (fun hc1 => ?_))))))))
 ·
  refine af (a5 (ab (a5 (eL mixed (by decide +kernel) (fun w3 k2 => ?_)))))
  replace ow := ow.s8 k2
  replace hB := hB.trans k2
  have hai := hda i (by omega); have hbi := hdb i (by omega); have hci := hI.1
  refine ao (bY rfl) rfl (ao (bY rfl) rfl (ao (bk aI cU rfl (ha.s8 hB) rfl (by omega)) rfl (ao (mU i dc rfl (ha.s8 hB) rfl (by omega)) rfl (ao (bY rfl) rfl (ao (bY rfl) rfl (ao (bk aI cU rfl (hb.s8 hB) rfl (by omega)) rfl (ao (mU i dc rfl (hb.s8 hB) rfl (by omega)) rfl (ao (cj rfl rfl (by omega)) rfl (ao (bY rfl) rfl (ao (cj rfl rfl (by omega)) rfl (ao (fe rfl) rfl (cV (a6 (a9 [(0, _), (1, _), (6, _), (8, _), (9, _)] ⟨rfl, rfl, rfl, rfl, rfl, trivial⟩ (a5 (aZ (oga rfl rfl (a6 (a5 (a5 (aZ ?_)))))))))))))))))))))
  refine ogm rfl rfl (a7 (bd rfl rfl) rfl (a6 (bT rfl (fun hc2 => ?_) (fun hc2 => ?_))))
  ·
   refine a5 (aZ (ogm rfl rfl (a7 (bi rfl rfl (by omega)) rfl (oga rfl rfl (a6 (aZ (oga rfl rfl (a6 (aZ (ogm rfl rfl (ogm rfl rfl (ogm rfl rfl (a7 (bk aI cU rfl ow.rd rfl (by omega)) rfl (ae (sG (u := ((((a i) - (b i)) - c) + 256)) i cU rfl rfl ow rfl (by omega)) ?_))))))))))))))
   rintro _ w4 ⟨o2, k3, _⟩
   replace hB := hB.new k3 (fun x hx => .inl (ow.blk x hx).1)
   refine a6 (bZ (aZ (ogm rfl rfl (a7 (bi rfl rfl (by omega)) rfl (oga rfl rfl (a6 (a9 [(0, _), (1, _), (6, _), (8, _), (7, _)] ⟨rfl, rfl, rfl, rfl, rfl, trivial⟩ (bM (Γ := Nat × (Nat → Int) × Int) ⟨i + 1, _, 1⟩ ⟨rfl, rfl, rfl, rfl, rfl, trivial⟩ (by (try dsimp only); omega) (⟨by omega, mF hI hai hbi (by omega) (by omega) (by omega) (by decide), o2, hB⟩)))))))))
  ·
   refine af (aZ (ogm rfl rfl (ogm rfl rfl (ogm rfl rfl (a7 (bk aI cU rfl ow.rd rfl (by omega)) rfl (ae (sG (u := (((a i) - (b i)) - c)) i cU rfl rfl ow rfl (by omega)) ?_))))))
   rintro _ w5 ⟨o3, k4, _⟩
   replace hB := hB.new k4 (fun x hx => .inl (ow.blk x hx).1)
   refine a6 (bZ (aZ (ogm rfl rfl (a7 (bi rfl rfl (by omega)) rfl (oga rfl rfl (a6 (bM (Γ := Nat × (Nat → Int) × Int) ⟨i + 1, _, 0⟩ ⟨rfl, rfl, rfl, rfl, rfl, trivial⟩ (by (try dsimp only); omega) (⟨by omega, mF hI hai hbi (by omega) (by omega) (by omega) (by decide), o3, hB⟩))))))))
 ·
  refine bF rfl (a5 (aZ (ogm rfl rfl (ogm rfl rfl (a7 (fS rfl rfl) rfl (oga rfl rfl (oga rfl rfl (a6 (a9 [(4, _), (5, _)] ⟨rfl, rfl, trivial⟩ (eS hfin Tryz.results91 rfl rfl ?_))))))))))
  obtain rfl : i = 34 := by omega
  obtain ⟨e1, e2, e3⟩ := lsI_end hda hdb hI
  exact ⟨_, _, by rw [← e1], ow, e2, e3, hB⟩
theorem pv (v : Value) (f : Nat → Int) (n : Nat) (w : World) (hv : Rd w 1 v n (iv .i64 n f)) (hf : Dg f n) (hn : n ≤ 66) : Rets Tryz.prog 54 [v] w (fun r w' => OwnB w' w.heap.size r (leB (vB f n % 7237005577332262213973186563042994240857116359379907606001950938285454250989) 32) ∧ Keep [] w w') := by
 have hB : Keep [] w w := Keep.refl _ _
 refine ac Tryz.func54 rfl (by decide) Tryz.ntmps54 rfl (fun fin _ hfin => a5 (aZ (oga rfl rfl (a6 (a5 (aZ (ad (nZ aI cU rfl rfl (by omega) (by constructor <;> omega)) rfl ?_)))))))
 rintro v1 w1 ⟨o1, nn1, lb1, k1, z1⟩
 have go_v1 := fun x hx => (show w.heap.size ≤ x from by have h1 := (o1.blk x hx).1; have h2 := hB.size; omega)
 have gl_o1 := hB.size
 replace hB := hB.trans k1
 replace o1 : Own w1 _ 3 1 v1 34 [.int .i64 0, .int .i64 0, .int .i64 0, .int .i64 0, .int .i64 0, .int .i64 0, .int .i64 0, .int .i64 0, .int .i64 0, .int .i64 0, .int .i64 0, .int .i64 0, .int .i64 0, .int .i64 0, .int .i64 0, .int .i64 0, .int .i64 0, .int .i64 0, .int .i64 0, .int .i64 0, .int .i64 0, .int .i64 0, .int .i64 0, .int .i64 0, .int .i64 0, .int .i64 0, .int .i64 0, .int .i64 0, .int .i64 0, .int .i64 0, .int .i64 0, .int .i64 0, .int .i64 0, .int .i64 0] := o1
 refine oga rfl rfl (a6 (a5 (aZ ?_)))
 have hls := fun b hb => (o1.blk b hb).2
 refine ad (a8 (vs := []) rfl (nX _)) rfl ?_
 rintro vl w2 ⟨o2, k2⟩
 have gl_o2 := hB.size
 replace o1 := o1.s8 k2
 replace hB := hB.trans k2
 have hlo := fun b hb => (o2.blk b hb).1
 refine oga rfl rfl (a6 (a5 (a5 (aZ (ogm rfl rfl (a7 (cB aI rfl (by first | assumption | exact Own.rd ‹_› | exact Rd.s8 ‹_› hB | exact Own.rd (Own.s8 ‹_› hB))) rfl (a7 (cj rfl rfl (by omega)) rfl (oga rfl rfl (a6 (ab ?_))))))))))
 replace o2 : Own w2 w.heap.size 3 1 vl 34 (iv .i64 34 (vecN ordL)) := o2.lo gl_o2
 have hs0 : ∀ b, b ∈ vblk v1 → b ∈ vblk vl → False := fun b h1 h2 => by have a := (hls b h1); have c := (hlo b h2); omega
 refine bK (Γ := Int × Nat × Value × (Nat → Int)) (fun ⟨j, m, vx, x⟩ => [(0, v), (3, vx), (4, vl), (5, .int .i64 j)]) (fun ⟨j, m, vx, x⟩ W => (m ≤ n ∧ j = (m : Int) - 1) ∧ RsI (vB f n) x (8 * m) ∧ Own W w.heap.size 3 1 vx 34 (iv .i64 34 x) ∧ Own W w.heap.size 3 1 vl 34 (iv .i64 34 (vecN ordL)) ∧ (∀ b, b ∈ vblk vx → b ∈ vblk vl → False) ∧ Keep [] w W) (fun ⟨j, m, vx, x⟩ => m) ⟨_, n, _, fun _ => 0⟩ ⟨rfl, rfl, rfl, rfl, trivial⟩ (⟨⟨Nat.le_refl _, rfl⟩, pN hf, o1.lo gl_o1, o2, hs0, hB⟩) ?_
 rintro ⟨j, m, vx, x⟩ w3 ⟨⟨hm0, hj⟩, hR, ox, ol, hs, hB⟩
 refine a9 [(0, v), (3, vx), (4, vl), (5, .int .i64 j)] ⟨rfl, rfl, rfl, rfl, trivial⟩ (a5 (a5 (aZ (ogm rfl rfl (a7 (ii rfl rfl) rfl (a6 (bT rfl (fun hc1 => ?_) (fun hc1 => ?_))))))))
 ·
  refine af (a5 (ab (a5 (aZ (oga rfl rfl (a6 (ab ?_)))))))
  obtain ⟨i, hi⟩ : ∃ i, m = i + 1 := ⟨m - 1, by omega⟩
  have hfi := hf i (by omega)
  refine bK (Γ := Int × Nat × Value × (Nat → Int)) (fun ⟨jb, b, vx, x⟩ => [(0, v), (3, vx), (4, vl), (5, .int .i64 j), (6, .int .i64 jb)]) (fun ⟨jb, b, vx, x⟩ W => (b ≤ 8 ∧ jb = (b : Int) - 1) ∧ RsI (vB f n) x (8 * i + b) ∧ Own W w.heap.size 3 1 vx 34 (iv .i64 34 x) ∧ Own W w.heap.size 3 1 vl 34 (iv .i64 34 (vecN ordL)) ∧ (∀ b, b ∈ vblk vx → b ∈ vblk vl → False) ∧ Keep [] w W) (fun ⟨jb, b, vx, x⟩ => b) ⟨7, 8, _, _⟩ ⟨rfl, rfl, rfl, rfl, rfl, trivial⟩ (⟨⟨Nat.le_refl _, rfl⟩, by rw [show 8 * i + 8 = 8 * m from by omega]; exact hR, ox, ol, hs, hB⟩) ?_
  rintro ⟨jb, b, vx, x⟩ w4 ⟨⟨hb0, hjb⟩, hR, ox, ol, hs, hB⟩
  refine a9 [(0, v), (3, vx), (4, vl), (5, .int .i64 j), (6, .int .i64 jb)] ⟨rfl, rfl, rfl, rfl, rfl, trivial⟩ (a5 (a5 (aZ (ogm rfl rfl (a7 (ii rfl rfl) rfl (a6 (bT rfl (fun hc2 => ?_) (fun hc2 => ?_))))))))
  ·
   refine af (a5 (ab (a5 (aZ (ogm rfl rfl (ogm rfl rfl (a7 (bk aI cU rfl (hv.s8 hB) rfl (by omega)) rfl (a7 (mU i dc rfl (hv.s8 hB) (by omega) (by omega)) rfl ?_))))))))
   obtain ⟨b1, hb1⟩ : ∃ b1, b = b1 + 1 := ⟨b - 1, by omega⟩
   have hsb := shr_bd b1 hfi.1 hfi.2
   have hbit := vB_bit (f := f) (n := n) (i := i) (b := b1) hf (by omega) (by omega)
   obtain ⟨c0, hc0e⟩ : ∃ c0, c0 = f i / 2 ^ b1 % 2 := ⟨_, rfl⟩
   have hc0 := bit01 (f i / 2 ^ b1)
   rw [← hc0e] at hbit hc0
   refine ogm rfl rfl (a7 (kJ (by rw [aJ]; rfl) aS rfl ⟨by omega, by omega⟩) rfl (a7 (cN (v' := .int .i64 (f i / 2 ^ b1)) (fC rfl rfl ⟨by omega, (show jb ≤ (64 : Int) from by omega)⟩) (by rw [show jb.toNat = b1 from by omega])) rfl (a7 (cN (v' := .int .i64 c0) (co rfl rfl) (by rw [and1 hsb.1 hsb.2, hc0e])) rfl (oga rfl rfl (a6 (a9 [(0, _), (3, _), (4, _), (5, _), (6, _), (7, _)] ⟨rfl, rfl, rfl, rfl, rfl, rfl, trivial⟩ (a5 (a5 (aZ (oga rfl rfl (a6 (ab (bK (Γ := Nat × (Nat → Int) × Int) (fun ⟨k, y, c⟩ => [(0, v), (3, vx), (4, vl), (5, .int .i64 j), (6, .int .i64 jb), (7, .int .i64 c), (8, .int .i64 (k : Int))]) (fun ⟨k, y, c⟩ W => k ≤ 34 ∧ DbI x y c0 c k ∧ Own W w.heap.size 3 1 vx 34 (iv .i64 34 y) ∧ Own W w.heap.size 3 1 vl 34 (iv .i64 34 (vecN ordL)) ∧ (∀ b, b ∈ vblk vx → b ∈ vblk vl → False) ∧ Keep [] w W) (fun ⟨k, y, c⟩ => 34 - k) ⟨0, x, c0⟩ ⟨rfl, rfl, rfl, rfl, rfl, rfl, rfl, trivial⟩ (⟨by omega, qA hc0, ox, ol, hs, hB⟩) ?_)))))))))))))
   rintro ⟨k, y, c⟩ w5 ⟨hk0, hD, ox, ol, hs, hB⟩
   refine a9 [(0, v), (3, vx), (4, vl), (5, .int .i64 j), (6, .int .i64 jb), (7, .int .i64 c), (8, .int .i64 (k : Int))] ⟨rfl, rfl, rfl, rfl, rfl, rfl, rfl, trivial⟩ (a5 (a5 (aZ (ogm rfl rfl (a7 (bd rfl rfl) rfl (a6 (bT rfl (fun hc3 => ?_) (fun hc3 => ?_))))))))
   ·
    refine af (a5 (ab (a5 (aZ ?_))))
    have hyk : 0 ≤ y k ∧ y k ≤ 255 := by rw [hD.2.1 k (Nat.le_refl _)]; exact hR.1 k (by omega)
    have hcc := hD.1
    refine ogm rfl rfl (ogm rfl rfl (a7 (bk aI cU rfl ox.rd rfl (by omega)) rfl (a7 (mU k dc rfl ox.rd rfl (by omega)) rfl (a7 (fR rfl rfl (by omega)) rfl (ogm rfl rfl (a7 (bi rfl rfl (by omega)) rfl (oga rfl rfl (a6 (a9 [(0, _), (3, _), (4, _), (5, _), (6, _), (8, _), (9, _)] ⟨rfl, rfl, rfl, rfl, rfl, rfl, rfl, trivial⟩ (a5 (aZ (ogm rfl rfl (ogm rfl rfl (ogm rfl rfl (a7 (cN (v' := .int .i64 ((2 * y k + c) % 256)) (co rfl rfl) (by rw [and255 (by omega) (by omega)])) rfl (a7 (bk aI cU rfl ox.rd rfl (by omega)) rfl (ae (sG (u := ((2 * y k + c) % 256)) k cU rfl rfl ox rfl (by omega)) ?_)))))))))))))))))
    rintro _ w6 ⟨o3, k3, _⟩
    replace hB := hB.new k3 (fun x hx => .inl (ox.blk x hx).1)
    replace ol := ol.keep k3 (fun x hx hm => hs x hm hx)
    refine a6 (aZ (ogm rfl rfl (a7 (cN (v' := .int .i64 ((2 * y k + c) / 256)) (fC rfl rfl ⟨by decide, by decide⟩) rfl) rfl (oga rfl rfl (a6 (bZ (aZ (ogm rfl rfl (a7 (bi rfl rfl (by omega)) rfl (oga rfl rfl (a6 (a9 [(0, _), (3, _), (4, _), (5, _), (6, _), (8, _), (7, _)] ⟨rfl, rfl, rfl, rfl, rfl, rfl, rfl, trivial⟩ (bM (Γ := Nat × (Nat → Int) × Int) ⟨k + 1, _, _⟩ ⟨rfl, rfl, rfl, rfl, rfl, rfl, rfl, trivial⟩ (by (try dsimp only); omega) (⟨by omega, sE hD (hR.1 k (by omega)) rfl, o3, ol, hs, hB⟩))))))))))))))
   ·
    refine bF rfl (a5 (aZ (ogm rfl rfl (ogm rfl rfl ?_))))
    obtain rfl : k = 34 := by omega
    have hy2 := dbI_end hD hc0 (rsI_lt hR).2
    have hlb := fun b hb => (ol.blk b hb).2
    refine ad (a8 (vs := [_, _]) rfl (px _ _ y (vecN ordL) _ ox.rd ol.rd hy2.1 ordL_dg)) rfl ?_
    rintro _ w7 ⟨v2, g1, rfl, o4, E1, F1, k4⟩
    have gl_o4 := hB.size
    replace ox := ox.s8 k4
    replace ol := ol.s8 k4
    replace hB := hB.trans k4
    refine ogm rfl rfl (a7 (bH (vs := [_, _]) rfl rfl) rfl (a7 (bH (vs := [_, _]) rfl rfl) rfl (oga rfl rfl (oga rfl rfl (a6 (a9 [(0, _), (3, _), (4, _), (5, _), (6, _), (10, _), (11, _)] ⟨rfl, rfl, rfl, rfl, rfl, rfl, rfl, trivial⟩ (a5 (aZ (ogm rfl rfl (a6 (bT rfl (fun hc4 => ?_) (fun hc4 => ?_))))))))))))
    ·
     refine aZ (ogm rfl rfl (oga rfl rfl (a6 (bZ (aZ (ogm rfl rfl (a7 (cj rfl rfl (by omega)) rfl (oga rfl rfl (a6 (bM (Γ := Int × Nat × Value × (Nat → Int)) ⟨_, b1, v2, g1⟩ ⟨rfl, rfl, rfl, rfl, rfl, trivial⟩ (by (try dsimp only); omega) (⟨⟨by omega, by omega⟩, (lk (by rw [show 8 * i + b1 + 1 = 8 * i + b from by omega]; exact hR) hbit hy2 hc0 (fun h => ⟨E1, (F1 (fO.symm ▸ h)).trans (congrArg _ fO)⟩)).1 (fO ▸ (by first | assumption | simp_all)), o4.lo gl_o4, ol, fun x hx hm => absurd (hlb x hm) (by have := (o4.blk x hx).1; omega), hB⟩)))))))))))
    ·
     refine af (bZ (aZ (ogm rfl rfl (a7 (cj rfl rfl (by omega)) rfl (oga rfl rfl (a6 (bM (Γ := Int × Nat × Value × (Nat → Int)) ⟨_, b1, vx, y⟩ ⟨rfl, rfl, rfl, rfl, rfl, trivial⟩ (by (try dsimp only); omega) (⟨⟨by omega, by omega⟩, (lk (by rw [show 8 * i + b1 + 1 = 8 * i + b from by omega]; exact hR) hbit hy2 hc0 (fun h => ⟨E1, (F1 (fO.symm ▸ h)).trans (congrArg _ fO)⟩)).2 (fun h => absurd (fO ▸ h) (by first | assumption | simp_all)), ox, ol, hs, hB⟩))))))))
  ·
   refine bF rfl (bZ (aZ (ogm rfl rfl (a7 (cj rfl rfl (by omega)) rfl (oga rfl rfl (a6 (bM (Γ := Int × Nat × Value × (Nat → Int)) ⟨_, i, _, _⟩ ⟨rfl, rfl, rfl, rfl, trivial⟩ (by (try dsimp only); omega) (⟨⟨by omega, by omega⟩, by rw [show 8 * i = 8 * i + b from by omega]; exact hR, ox, ol, hs, hB⟩))))))))
 ·
  refine bF rfl (a5 (aZ (oga rfl rfl (a6 (a5 (a5 (aZ (oga rfl rfl (a6 (ab ?_))))))))))
  obtain rfl : m = 0 := by omega
  obtain ⟨hxd, hxv⟩ := rsI_end hR
  obtain ⟨V, hV⟩ : ∃ V, V = vB f n % 7237005577332262213973186563042994240857116359379907606001950938285454250989 := ⟨_, rfl⟩
  rw [← hV] at hxv
  refine bK (Γ := Nat × Value) (fun ⟨i, q⟩ => [(3, vx), (12, q), (13, .int .i64 (i : Int))]) (fun ⟨i, q⟩ W => i ≤ 32 ∧ Own W w.heap.size 5 1 q i (bv ((leB V 32).take i)) ∧ Own W w.heap.size 3 1 vx 34 (iv .i64 34 x) ∧ (∀ b, b ∈ vblk q → b ∈ vblk vx → False) ∧ Keep [] w W) (fun ⟨i, q⟩ => 32 - i) ⟨0, _⟩ ⟨rfl, rfl, rfl, trivial⟩ (⟨by omega, dM _ _ _ _, ox, fun b hb => (by cases hb), hB⟩) ?_
  rintro ⟨i, q⟩ w8 ⟨hi0, oq, ox, hs, hB⟩
  refine a9 [(3, vx), (12, q), (13, .int .i64 (i : Int))] ⟨rfl, rfl, rfl, trivial⟩ (a5 (a5 (aZ (ogm rfl rfl (a7 (bd rfl rfl) rfl (a6 (bT rfl (fun hc5 => ?_) (fun hc5 => ?_))))))))
  ·
   refine af (a5 (ab (aZ (ogm rfl rfl (ogm rfl rfl (ogm rfl rfl (a7 (bk aI cU rfl ox.rd rfl (by omega)) rfl (a7 (mU i dc rfl ox.rd rfl (by omega)) rfl (a7 (cN (v' := .int .u8 ((UInt8.ofNat (x i).toNat).toNat : Int)) (eb (by rw [aJ]; rfl) aH rfl) (congrArg _ (byte_of (hxd i (by omega))))) rfl (ad (dv (m := 1) (xs := [.tmp 70]) (vs := [_]) aA cg (by decide) rfl rfl rfl (by first | (simp; done) | (intro v hv; rw [List.mem_singleton] at hv; subst hv; rfl)) (by decide)) rfl ?_))))))))))
   rintro v3 w9 ⟨o5, nn2, lb2, k5, z2⟩
   replace oq := oq.s8 k5
   replace ox := ox.s8 k5
   replace hB := hB.trans k5
   have lq := fun b hb => (ox.blk b hb).2
   refine ad (dn (ys := [UInt8.ofNat (x i).toNat]) aA cg rfl oq rfl (show RdB _ _ [_] from o5.rd) (by simp only [List.length_singleton]; omega) (by have := hB.size; omega)) rfl ?_
   rintro v4 w10 ⟨o6, k6, lb3, _⟩
   replace hB := hB.new k6 (fun x hx => .inl (oq.blk x hx).1)
   replace ox := ox.keep k6 (fun x hx hm => hs x hm hx)
   refine oga rfl rfl (a6 (a9 [(3, _), (12, _), (13, _)] ⟨rfl, rfl, rfl, trivial⟩ (bZ (aZ (ogm rfl rfl (a7 (bi rfl rfl (by omega)) rfl (oga rfl rfl (a6 (bM (Γ := Nat × Value) ⟨i + 1, v4⟩ ⟨rfl, rfl, rfl, trivial⟩ (by (try dsimp only); omega) (⟨by omega, by rw [← rZ hxd hxv (by omega) (by omega)]; exact o6, ox, fun b h1 h2 => (lb3 b h1).elim (fun h => hs b h h2) (fun h => absurd (lq b h2) (by omega)), hB⟩))))))))))
  ·
   refine bF rfl (a5 (aZ (ogm rfl rfl (oga rfl rfl (a6 (bG hfin Tryz.results54 rfl ?_))))))
   obtain rfl : i = 32 := by omega
   refine ⟨?_, hB⟩
   rw [← hV]
   unfold OwnB
   rw [eI]
   rw [List.take_of_length_le (by rw [eI]; exact Nat.le_refl _)] at oq
   exact oq
theorem ig (v : Value) (xs : List UInt8) (w : World) (hv : RdB w v xs) (hx : xs.length ≤ 64) : Rets Tryz.prog 53 [v] w (fun r w' => ∃ u, r = .tuple #[u, .int .i64 0] ∧ OwnB w' w.heap.size u (leB (leI xs % 7237005577332262213973186563042994240857116359379907606001950938285454250989) 32) ∧ Keep [] w w') := by
 have hB : Keep [] w w := Keep.refl _ _
 refine ac Tryz.func53 rfl (by decide) Tryz.ntmps53 rfl (fun fin _ hfin => a5 (aZ (oga rfl rfl (oga rfl rfl (a6 (a5 (a5 (aZ (ogm rfl rfl (a7 (cB aA rfl (by first | assumption | exact Own.rd ‹_› | exact Rd.s8 ‹_› hB | exact Own.rd (Own.s8 ‹_› hB))) rfl (a7 (mV rfl rfl) rfl (a6 (ci rfl (by omega) (af (a5 (aZ (oga rfl rfl (a6 (a5 (a5 (aZ (oga rfl rfl (a6 (ab (bK (Γ := Nat × Value) (fun ⟨i, q⟩ => [(0, v), (4, q), (5, .int .i64 (i : Int))]) (fun ⟨i, q⟩ W => i ≤ xs.length ∧ Own W w.heap.size 3 1 q i (iv .i64 i (fun j => gb xs (j : Int))) ∧ Keep [] w W) (fun ⟨i, q⟩ => xs.length - i) ⟨0, _⟩ ⟨rfl, rfl, rfl, trivial⟩ (⟨by omega, dM _ _ _ _, hB⟩) ?_)))))))))))))))))))))))))
 rintro ⟨i, q⟩ w1 ⟨hi0, oq, hB⟩
 refine a9 [(0, v), (4, q), (5, .int .i64 (i : Int))] ⟨rfl, rfl, rfl, trivial⟩ (a5 (a5 (aZ (ogm rfl rfl (ogm rfl rfl (a7 (cB aA rfl (by first | assumption | exact Own.rd ‹_› | exact Rd.s8 ‹_› hB | exact Own.rd (Own.s8 ‹_› hB))) rfl (a7 (bd rfl rfl) rfl (a6 (bT rfl (fun hc1 => ?_) (fun hc1 => ?_))))))))))
 ·
  refine af (a5 (ab (aZ (ogm rfl rfl (ogm rfl rfl (ogm rfl rfl (a7 (bk aA cg rfl (by first | assumption | exact Own.rd ‹_› | exact Rd.s8 ‹_› hB | exact Own.rd (Own.s8 ‹_› hB)) rfl (by omega)) rfl (a7 (dT iI rfl (hv.s8 hB) (by omega)) rfl (a7 (g_cvi (by rw [aH]; rfl) aJ rfl (by have := cG xs (i : Int); omega)) rfl (ad (dv (m := 1) (xs := [.tmp 20]) (vs := [_]) aI cU (by decide) rfl rfl rfl (by first | (simp; done) | (intro v hv; rw [List.mem_singleton] at hv; subst hv; rfl)) (by decide)) rfl ?_))))))))))
  rintro v1 w2 ⟨o1, nn1, lb1, k1, z1⟩
  replace oq := oq.s8 k1
  replace hB := hB.trans k1
  refine ad (m7 (ys := [.int .i64 (gb xs (i : Int))]) aI cU (by decide) rfl rfl oq rfl o1.rd (by intro c hc; rw [List.mem_singleton] at hc; subst hc; rfl) (by constructor <;> omega) (by have := hB.size; omega)) rfl ?_
  rintro v2 w3 ⟨o2, k2, _, _⟩
  replace hB := hB.new k2 (fun x hx => .inl (oq.blk x hx).1)
  refine oga rfl rfl (a6 (a9 [(0, _), (4, _), (5, _)] ⟨rfl, rfl, rfl, trivial⟩ (bZ (aZ (ogm rfl rfl (a7 (bi rfl rfl (by omega)) rfl (oga rfl rfl (a6 (bM (Γ := Nat × Value) ⟨i + 1, v2⟩ ⟨rfl, rfl, rfl, trivial⟩ (by (try dsimp only); omega) (⟨by omega, by rw [iv_snoc]; exact o2, hB⟩))))))))))
 ·
  refine bF rfl (a5 (aZ (ogm rfl rfl (ad (a8 (vs := [_]) rfl (pv _ (fun j => gb xs (j : Int)) xs.length _ (by rw [show xs.length = i from by omega]; exact oq.rd) (fun j _ => cG _ _) (by omega))) rfl ?_))))
  rintro v3 w4 ⟨o3, k3⟩
  have gl_o3 := hB.size
  replace oq := oq.s8 k3
  replace hB := hB.trans k3
  refine oga rfl rfl (oga rfl rfl (a6 (eS hfin Tryz.results53 rfl rfl ?_)))
  refine ⟨_, rfl, ?_, hB⟩
  have e := qU xs xs.length (Nat.le_refl _)
  rw [List.take_length] at e
  rw [← e]
  exact o3.lo gl_o3
theorem nY (v : Value) (xs : List UInt8) (w : World) (hv : RdB w v xs) : Rets Tryz.prog 31 [v] w (fun r w' => r = .bool (decide (xs.length = 32) && decide (leI xs < 7237005577332262213973186563042994240857116359379907606001950938285454250989)) ∧ Keep [] w w') := by
 have hB : Keep [] w w := Keep.refl _ _
 refine ac Tryz.func31 rfl (by decide) Tryz.ntmps31 rfl (fun fin _ hfin => a5 (aZ (oga rfl rfl (a6 (a5 (a5 (aZ (ogm rfl rfl (a7 (cB aA rfl (by first | assumption | exact Own.rd ‹_› | exact Rd.s8 ‹_› hB | exact Own.rd (Own.s8 ‹_› hB))) rfl (a7 (dt rfl rfl) rfl (a6 (bT rfl (fun hc1 => ?_) (fun hc1 => ?_)))))))))))))
 ·
  refine a5 (aZ (oga rfl rfl (a6 (bG hfin Tryz.results31 rfl ?_))))
  exact ⟨by rw [decide_eq_false (show ¬ (xs.length = 32) from by omega)]; rfl, hB⟩
 ·
  refine af (a5 (aZ (ogm rfl rfl (ad (a8 (vs := [_]) rfl (ig _ _ _ (hv.s8 hB) (by omega))) rfl ?_))))
  rintro _ w1 ⟨v1, rfl, o1, k1⟩
  replace hB := hB.trans k1
  refine ogm rfl rfl (a7 (bH (vs := [_, _]) rfl rfl) rfl (a7 (bH (vs := [_, _]) rfl rfl) rfl (oga rfl rfl (oga rfl rfl (a6 (a9 [(0, _), (3, _)] ⟨rfl, rfl, trivial⟩ (a5 (aZ (ogm rfl rfl (a7 (gC aA aH aT rfl o1.rd) rfl (ogm rfl rfl (a7 (gC aA aH aT rfl (by first | assumption | exact Own.rd ‹_› | exact Rd.s8 ‹_› hB | exact Own.rd (Own.s8 ‹_› hB))) rfl (a7 (oN rfl rfl) rfl (oga rfl rfl (a6 (bG hfin Tryz.results31 rfl ?_))))))))))))))))
  refine ⟨congrArg Value.bool ?_, hB⟩
  rw [decide_eq_true (show xs.length = 32 from by omega), Bool.true_and]
  exact decide_eq_decide.2 (qH (by omega))
end Go.Proofs.YtllmbkmghmmhfaaGreatDoor.W
namespace Go.Proofs.YtllmbkmghmmhfaaGreatDoor.W
open Go Go.Eng Go.Byt
open Go.Sha
def Tabs (w : World) : Prop := Row w ⟨0, 0, none⟩ (iv .u64 8 (wN (KB Hl))) ∧ Row w ⟨1, 0, none⟩ (iv .u64 80 (wN (KB Kl)))
theorem Tabs.keep {S : List Nat} {w w' : World} (h : Tabs w) (k : Keep S w w') (h0 : ∀ x, x ∈ S → 1 < x) : Tabs w' := ⟨h.1.keep k (fun hm => absurd (h0 _ hm) (by decide)), h.2.keep k (fun hm => absurd (h0 _ hm) (by decide))⟩
theorem Tabs.s8 {w w' : World} (h : Tabs w) (k : Keep [] w w') : Tabs w' := h.keep k (fun _ hm => by cases hm)
theorem Tabs.cube {w : World} (h : Tabs w) {i : Nat} (hi : i < 80) : w.cell? ⟨1, i, none⟩ = some (.int .u64 (((KB Kl).getD i 0).toNat : Int)) := by
 have := h.2 i _ (bO hi)
 rwa [Addr.add_lit, Nat.zero_add] at this
theorem Tabs.two {w : World} (h : Tabs w) : 1 < w.heap.size := by
 have h1 := World.block_lt_of_cell? _ _ (h.1 0 _ (bO (by decide)))
 have h2 := World.block_lt_of_cell? _ _ (h.2 0 _ (bO (by decide)))
 rw [Addr.add_lit] at h1 h2
 simp only at h1 h2
 omega
theorem jD (x : BitVec 64) (r : Nat) (hr : r ≤ 64) (w : World) : Rets Tryz.prog 123 [.int .u64 ((x).toNat : Int), .int .i64 (r : Int), .int .i64 64] w (fun v w' => v = .int .u64 ((tn x r).toNat : Int) ∧ Keep [] w w') := by
 have hB : Keep [] w w := Keep.refl _ _
 refine ac Tryz.func123 rfl (by decide) Tryz.ntmps123 rfl (fun fin _ hfin => a5 (aZ (oga rfl rfl (a6 (a5 (eL mixed (by decide +kernel) (fun w1 k1 => ?_)))))))
 replace hB := hB.trans k1
 refine ao (bY rfl) rfl (ao (bY rfl) rfl (ao (eJ r rfl rfl rfl hr) rfl (ao (bY rfl) rfl (ao (bY rfl) rfl (ao (bY rfl) rfl (ao (cj rfl rfl (by omega)) rfl (ao (lB (64 - r) rfl rfl (by omega) (by omega)) rfl (ao (oM rfl rfl) rfl (ao (fe rfl) rfl (cV (a6 (a9 [(6, _)] ⟨rfl, trivial⟩ (bG hfin Tryz.results123 rfl ?_)))))))))))))
 exact ⟨rfl, hB⟩
theorem oB (p : Nat) (x0 x1 x2 x3 x4 x5 x6 x7 x8 x9 x10 x11 x12 x13 x14 x15 x16 x17 x18 x19 x20 : Value) (x : BitVec 64) (a b c : Nat) (ha : a ≤ 64) (hb : b ≤ 64) (hc : c ≤ 64) (w : World) (hbz : Bk w p 133 [.int .i64 64, x0, x1, x2, x3, x4, x5, x6, x7, x8, x9, x10, x11, x12, x13, x14, x15, x16, x17, x18, x19, x20]) : Rets Tryz.prog 117 [.pointer (some ⟨p, 0, none⟩), .int .u64 ((x).toNat : Int), .agg [.int .i64 (a : Int), .int .i64 (b : Int), .int .i64 (c : Int)].toArray] w (fun v w' => v = .int .u64 ((lo (a, b, c) x).toNat : Int) ∧ Keep [] w w') := by
 have hB : Keep [] w w := Keep.refl _ _
 refine ac Tryz.func117 rfl (by decide) Tryz.ntmps117 rfl (fun fin _ hfin => a5 (aZ (ad (bc (cs := [.int .i64 (a : Int), .int .i64 (b : Int), .int .i64 (c : Int)]) rfl rfl) rfl ?_)))
 rintro _ w1 ⟨b1, rfl, eb1, hb1, k1, z1⟩
 obtain ⟨hB, hbz⟩ := bN k1 hB hbz
 clear eb1 z1
 refine oga rfl rfl (a6 (a5 (bf 24 [0, 1, 2, 3, 4, 5, 6, 7, 9, 10, 11, 12, 13, 14, 15, 16, 19, 20, 21, 22, 8, 17, 18, 23] [8, 17] [] mixed [(1, _), (5, _), (0, _), (6, _)] ⟨rfl, rfl, rfl, rfl, trivial⟩ (by decide +kernel) rfl (fun w2 k2 => ?_))))
 obtain ⟨hB, hbz, hb1⟩ := ca k2 hB hbz hb1
 refine bL 1 rfl rfl rfl rfl rfl (am 5 rfl rfl rfl rfl (fun W' kk => ar 0 aU cU rfl rfl (by omega) (by omega)) (am 8 rfl rfl rfl rfl (fun W' kk => ah dc rfl (Bk.s8 hb1 kk) rfl) (bL 0 rfl rfl rfl rfl rfl (am 10 rfl rfl rfl rfl (fun W' kk => cf rfl) (am 11 rfl rfl rfl rfl (fun W' kk => ax 0 aG rfl eR (by decide) rfl rfl) (am 12 rfl rfl rfl rfl (fun W' kk => ax 0 aL rfl cU (by decide) rfl rfl) (am 13 rfl rfl rfl rfl (fun W' kk => ah dc rfl (Bk.s8 hbz kk) rfl) (bL 1 rfl rfl rfl rfl rfl ?_))))))))
 refine am 5 rfl rfl rfl rfl (fun W' kk => ar 1 aU cU rfl rfl (by omega) (by omega)) (am 17 rfl rfl rfl rfl (fun W' kk => ah dc rfl (Bk.s8 hb1 kk) rfl) (bL 0 rfl rfl rfl rfl rfl (am 19 rfl rfl rfl rfl (fun W' kk => cf rfl) (am 20 rfl rfl rfl rfl (fun W' kk => ax 0 aG rfl eR (by decide) rfl rfl) (am 21 rfl rfl rfl rfl (fun W' kk => ax 0 aL rfl cU (by decide) rfl rfl) (am 22 rfl rfl rfl rfl (fun W' kk => ah dc rfl (Bk.s8 hbz kk) rfl) (bL 1 rfl rfl rfl rfl rfl (am 5 rfl rfl rfl rfl (fun W' kk => ar 2 aU cU rfl rfl (by omega) (by omega)) ?_))))))))
 refine am 27 rfl rfl rfl rfl (fun W' kk => ah dc rfl (Bk.s8 hb1 kk) rfl) (cF 26 28 rfl rfl rfl rfl rfl (fun W' kk => eJ c rfl rfl rfl hc) (bq [(7, _), (9, _), (14, _)] rfl rfl ⟨rfl, rfl, rfl, trivial⟩ rfl (a8 (vs := [_, _, _]) rfl (jD x a ha _)) ?_))
 rintro _ w3 ⟨rfl, k3⟩
 refine ⟨k3, ?_⟩
 replace hB := hB.trans k3
 refine bq [(16, _), (18, _), (23, _)] rfl rfl ⟨rfl, rfl, rfl, trivial⟩ rfl (a8 (vs := [_, _, _]) rfl (jD x b hb _)) ?_
 rintro _ w4 ⟨rfl, k4⟩
 refine ⟨k4, ?_⟩
 replace hB := hB.trans k4
 refine cF 15 24 rfl rfl rfl rfl rfl (fun W' kk => eV rfl rfl) (cF 25 29 rfl rfl rfl rfl rfl (fun W' kk => eV rfl rfl) (bz (oga rfl rfl (a6 (a9 [(6, _)] ⟨rfl, trivial⟩ (bG hfin Tryz.results117 rfl ?_))))))
 exact ⟨rfl, hB⟩
theorem mP (p : Nat) (x0 x1 x2 x3 x4 x5 x6 x7 x8 x9 x10 x11 x12 x13 x14 x15 x16 x17 x18 x19 x20 : Value) (x : BitVec 64) (a b c : Nat) (ha : a ≤ 64) (hb : b ≤ 64) (hc : c ≤ 64) (w : World) (hbz : Bk w p 133 [.int .i64 64, x0, x1, x2, x3, x4, x5, x6, x7, x8, x9, x10, x11, x12, x13, x14, x15, x16, x17, x18, x19, x20]) : Rets Tryz.prog 118 [.pointer (some ⟨p, 0, none⟩), .int .u64 ((x).toNat : Int), .agg [.int .i64 (a : Int), .int .i64 (b : Int), .int .i64 (c : Int)].toArray] w (fun v w' => v = .int .u64 ((hi (a, b, c) x).toNat : Int) ∧ Keep [] w w') := by
 have hB : Keep [] w w := Keep.refl _ _
 refine ac Tryz.func118 rfl (by decide) Tryz.ntmps118 rfl (fun fin _ hfin => a5 (aZ (ad (bc (cs := [.int .i64 (a : Int), .int .i64 (b : Int), .int .i64 (c : Int)]) rfl rfl) rfl ?_)))
 rintro _ w1 ⟨b1, rfl, eb1, hb1, k1, z1⟩
 obtain ⟨hB, hbz⟩ := bN k1 hB hbz
 clear eb1 z1
 refine oga rfl rfl (a6 (a5 (bf 29 [0, 1, 2, 3, 4, 5, 6, 7, 9, 10, 11, 12, 13, 14, 15, 16, 19, 20, 21, 22, 23, 24, 25, 26, 8, 17, 18, 27, 28] [8, 17, 27] [] mixed [(1, _), (5, _), (0, _), (6, _)] ⟨rfl, rfl, rfl, rfl, trivial⟩ (by decide +kernel) rfl (fun w2 k2 => ?_))))
 obtain ⟨hB, hbz, hb1⟩ := ca k2 hB hbz hb1
 refine bL 1 rfl rfl rfl rfl rfl (am 5 rfl rfl rfl rfl (fun W' kk => ar 0 aU cU rfl rfl (by omega) (by omega)) (am 8 rfl rfl rfl rfl (fun W' kk => ah dc rfl (Bk.s8 hb1 kk) rfl) (bL 0 rfl rfl rfl rfl rfl (am 10 rfl rfl rfl rfl (fun W' kk => cf rfl) (am 11 rfl rfl rfl rfl (fun W' kk => ax 0 aG rfl eR (by decide) rfl rfl) (am 12 rfl rfl rfl rfl (fun W' kk => ax 0 aL rfl cU (by decide) rfl rfl) (am 13 rfl rfl rfl rfl (fun W' kk => ah dc rfl (Bk.s8 hbz kk) rfl) (bL 1 rfl rfl rfl rfl rfl ?_))))))))
 refine am 5 rfl rfl rfl rfl (fun W' kk => ar 1 aU cU rfl rfl (by omega) (by omega)) (am 17 rfl rfl rfl rfl (fun W' kk => ah dc rfl (Bk.s8 hb1 kk) rfl) (bL 0 rfl rfl rfl rfl rfl (am 19 rfl rfl rfl rfl (fun W' kk => cf rfl) (am 20 rfl rfl rfl rfl (fun W' kk => ax 0 aG rfl eR (by decide) rfl rfl) (am 21 rfl rfl rfl rfl (fun W' kk => ax 0 aL rfl cU (by decide) rfl rfl) (am 22 rfl rfl rfl rfl (fun W' kk => ah dc rfl (Bk.s8 hbz kk) rfl) (bL 1 rfl rfl rfl rfl rfl (am 5 rfl rfl rfl rfl (fun W' kk => ar 2 aU cU rfl rfl (by omega) (by omega)) ?_))))))))
 refine am 27 rfl rfl rfl rfl (fun W' kk => ah dc rfl (Bk.s8 hb1 kk) rfl) (bL 0 rfl rfl rfl rfl rfl (am 29 rfl rfl rfl rfl (fun W' kk => cf rfl) (am 30 rfl rfl rfl rfl (fun W' kk => ax 0 aG rfl eR (by decide) rfl rfl) (am 31 rfl rfl rfl rfl (fun W' kk => ax 0 aL rfl cU (by decide) rfl rfl) (am 32 rfl rfl rfl rfl (fun W' kk => ah dc rfl (Bk.s8 hbz kk) rfl) (bq [(7, _), (9, _), (14, _)] rfl rfl ⟨rfl, rfl, rfl, trivial⟩ rfl (a8 (vs := [_, _, _]) rfl (jD x a ha _)) ?_))))))
 rintro _ w3 ⟨rfl, k3⟩
 refine ⟨k3, ?_⟩
 replace hB := hB.trans k3
 refine bq [(16, _), (18, _), (23, _)] rfl rfl ⟨rfl, rfl, rfl, trivial⟩ rfl (a8 (vs := [_, _, _]) rfl (jD x b hb _)) ?_
 rintro _ w4 ⟨rfl, k4⟩
 refine ⟨k4, ?_⟩
 replace hB := hB.trans k4
 refine cF 15 24 rfl rfl rfl rfl rfl (fun W' kk => eV rfl rfl) (bq [(26, _), (28, _), (33, _)] rfl rfl ⟨rfl, rfl, rfl, trivial⟩ rfl (a8 (vs := [_, _, _]) rfl (jD x c hc _)) ?_)
 rintro _ w5 ⟨rfl, k5⟩
 refine ⟨k5, ?_⟩
 replace hB := hB.trans k5
 refine cF 25 34 rfl rfl rfl rfl rfl (fun W' kk => eV rfl rfl) (bz (oga rfl rfl (a6 (a9 [(6, _)] ⟨rfl, trivial⟩ (bG hfin Tryz.results118 rfl ?_)))))
 exact ⟨rfl, hB⟩
theorem qP (w : World) : Rets Tryz.prog 82 [] w (fun v w' => v = .agg [.int .i64 64, .int .i64 80, .int .i64 1, .int .i64 8, .int .i64 7, .int .i64 19, .int .i64 61, .int .i64 6, .int .i64 28, .int .i64 34, .int .i64 39, .int .i64 14, .int .i64 18, .int .i64 41].toArray ∧ Keep [] w w') := by
 have hB : Keep [] w w := Keep.refl _ _
 refine ac Tryz.func82 rfl (by decide) Tryz.ntmps82 rfl (fun fin _ hfin => a5 (aZ (ad (aj eR) rfl ?_)))
 rintro _ w1 ⟨b1, rfl, eb1, hb1, k1, z1⟩
 have ge_b1 : w.heap.size ≤ b1 := by have := hB.size; omega
 replace hB := hB.trans k1
 clear eb1 z1
 refine a6 (a5 (aZ (a7 (dm (idx := [0, 1, 2]) (xs := [.const (.int .i64 (1)), .const (.int .i64 (8)), .const (.int .i64 (7))]) (vs := [_, _, _]) (css := [[.int .i64 1], [.int .i64 8], [.int .i64 7]]) (out := [.int .i64 1, .int .i64 8, .int .i64 7]) aU cU fj (dS 3 1) rfl rfl ⟨rfl, rfl, rfl, trivial⟩ rfl rfl) rfl (a7 (dm (idx := [0, 1, 2]) (xs := [.const (.int .i64 (19)), .const (.int .i64 (61)), .const (.int .i64 (6))]) (vs := [_, _, _]) (css := [[.int .i64 19], [.int .i64 61], [.int .i64 6]]) (out := [.int .i64 19, .int .i64 61, .int .i64 6]) aU cU fj (dS 3 1) rfl rfl ⟨rfl, rfl, rfl, trivial⟩ rfl rfl) rfl (a7 (dm (idx := [0, 1, 2]) (xs := [.const (.int .i64 (28)), .const (.int .i64 (34)), .const (.int .i64 (39))]) (vs := [_, _, _]) (css := [[.int .i64 28], [.int .i64 34], [.int .i64 39]]) (out := [.int .i64 28, .int .i64 34, .int .i64 39]) aU cU fj (dS 3 1) rfl rfl ⟨rfl, rfl, rfl, trivial⟩ rfl rfl) rfl (a7 (dm (idx := [0, 1, 2]) (xs := [.const (.int .i64 (14)), .const (.int .i64 (18)), .const (.int .i64 (41))]) (vs := [_, _, _]) (css := [[.int .i64 14], [.int .i64 18], [.int .i64 41]]) (out := [.int .i64 14, .int .i64 18, .int .i64 41]) aU cU fj (dS 3 1) rfl rfl ⟨rfl, rfl, rfl, trivial⟩ rfl rfl) rfl ?_))))))
 refine a7 (dR (idx := [0, 1, 2, 3, 4, 5]) (xs := [.const (.int .i64 (64)), .const (.int .i64 (80)), .tmp 1, .tmp 2, .tmp 3, .tmp 4]) (vs := [_, _, _, _, _, _]) (css := [[_], [_], [_, _, _], [_, _, _], [_, _, _], [_, _, _]]) (out := [_, _, _, _, _, _, _, _, _, _, _, _, _, _]) pl113 eR rfl rfl ⟨rfl, rfl, rfl, rfl, rfl, rfl, trivial⟩ rfl rfl) rfl (ae (bB eR rfl rfl rfl (by simp only [List.forall_mem_cons]; refine ⟨rfl, rfl, rfl, rfl, rfl, rfl, rfl, rfl, rfl, rfl, rfl, rfl, rfl, rfl, fun v hv => by cases hv⟩) hb1 rfl) ?_)
 rintro _ w2 ⟨hb2, k2, z2⟩
 replace hB := hB.new k2 (nw ge_b1)
 clear z2
 replace hb2 : Bk w2 b1 _ [.int .i64 64, .int .i64 80, .int .i64 1, .int .i64 8, .int .i64 7, .int .i64 19, .int .i64 61, .int .i64 6, .int .i64 28, .int .i64 34, .int .i64 39, .int .i64 14, .int .i64 18, .int .i64 41] := hb2
 refine a6 (ba hfin Tryz.results82 rfl (ak s3 eR hb2 rfl)  ?_)
 exact ⟨rfl, hB⟩
theorem kr (w : World) (hT : Tabs w) : Rets Tryz.prog 101 [.agg [.int .i64 64, .int .i64 80, .int .i64 1, .int .i64 8, .int .i64 7, .int .i64 19, .int .i64 61, .int .i64 6, .int .i64 28, .int .i64 34, .int .i64 39, .int .i64 14, .int .i64 18, .int .i64 41].toArray] w (fun v w' => v = .agg [.int .i64 64, .int .i64 80, .int .i64 1, .int .i64 8, .int .i64 7, .int .i64 19, .int .i64 61, .int .i64 6, .int .i64 28, .int .i64 34, .int .i64 39, .int .i64 14, .int .i64 18, .int .i64 41, .int .u64 ((cst 64 Hl 0).toNat : Int), .int .u64 ((cst 64 Hl 1).toNat : Int), .int .u64 ((cst 64 Hl 2).toNat : Int), .int .u64 ((cst 64 Hl 3).toNat : Int), .int .u64 ((cst 64 Hl 4).toNat : Int), .int .u64 ((cst 64 Hl 5).toNat : Int), .int .u64 ((cst 64 Hl 6).toNat : Int), .int .u64 ((cst 64 Hl 7).toNat : Int)].toArray ∧ Keep [] w w') := by
 have hB : Keep [] w w := Keep.refl _ _
 refine ac Tryz.func101 rfl (by decide) Tryz.ntmps101 rfl (fun fin _ hfin => a5 (aZ (ad (bc (cs := [.int .i64 64, .int .i64 80, .int .i64 1, .int .i64 8, .int .i64 7, .int .i64 19, .int .i64 61, .int .i64 6, .int .i64 28, .int .i64 34, .int .i64 39, .int .i64 14, .int .i64 18, .int .i64 41]) rfl rfl) rfl ?_)))
 rintro _ w1 ⟨b1, rfl, eb1, hb1, k1, z1⟩
 replace hB := hB.trans k1
 clear eb1 z1
 refine ad (aj gm) rfl ?_
 rintro _ w2 ⟨b2, rfl, eb2, hb2, k2, z2⟩
 have ge_b2 : w.heap.size ≤ b2 := by have := hB.size; omega
 obtain ⟨hB, hb1⟩ := bN k2 hB hb1
 clear eb2 z2
 refine a6 (a5 (aZ (a7 (aa (cs' := [_, _, _, _, _, _, _, _, _, _, _, _, _, _]) s3 eR rfl hb1 rfl rfl) rfl (a7 (dR (idx := [0]) (xs := [.tmp 6]) (vs := [_]) (css := [[_, _, _, _, _, _, _, _, _, _, _, _, _, _]]) (out := [_, _, _, _, _, _, _, _, _, _, _, _, _, _, _, _, _, _, _, _, _, _]) pl133 gm rfl rfl ⟨rfl, trivial⟩ rfl rfl) rfl (ad (aj gm) rfl ?_)))))
 rintro _ w3 ⟨b3, rfl, eb3, hb3, k3, z3⟩
 have ge_b3 : w.heap.size ≤ b3 := by have := hB.size; omega
 have ne_b1_b3 : b1 ≠ b3 := by have := hb1.lt; omega
 have ne_b2_b3 : b2 ≠ b3 := by have := hb2.lt; omega
 obtain ⟨hB, hb1, hb2⟩ := ca k3 hB hb1 hb2
 clear eb3 z3
 refine ae (bB gm rfl rfl rfl (by simp only [List.forall_mem_cons]; refine ⟨rfl, rfl, rfl, rfl, rfl, rfl, rfl, rfl, rfl, rfl, rfl, rfl, rfl, rfl, rfl, rfl, rfl, rfl, rfl, rfl, rfl, rfl, fun v hv => by cases hv⟩) hb3 rfl) ?_
 rintro _ w4 ⟨hb4, k4, z4⟩
 replace hb1 := hb1.keep k4 (nm ne_b1_b3)
 replace hb2 := hb2.keep k4 (nm ne_b2_b3)
 replace hB := hB.new k4 (nw ge_b3)
 clear z4
 replace hb4 : Bk w4 b3 _ [.int .i64 64, .int .i64 80, .int .i64 1, .int .i64 8, .int .i64 7, .int .i64 19, .int .i64 61, .int .i64 6, .int .i64 28, .int .i64 34, .int .i64 39, .int .i64 14, .int .i64 18, .int .i64 41, .int .u64 0, .int .u64 0, .int .u64 0, .int .u64 0, .int .u64 0, .int .u64 0, .int .u64 0, .int .u64 0] := hb4
 refine a6 (a5 (a5 (aZ (a7 (rj (cs := iv .u64 8 (wN (KB Hl))) sZ dB rfl (hT.s8 hB).1 (cO _ _ _ _)) rfl (ogm rfl rfl (a6 (ab (d8 9 (a5 (aZ (a7 (bd rfl rfl) rfl (a6 (a5 (bg rfl (by decide) (af (a5 (ab (a5 (aZ (ogm rfl rfl (a7 (gX (cs := iv .u64 8 (wN (KB Hl))) aD ag au rfl rfl (by decide) (bO (by decide))) rfl (oga rfl rfl (oga rfl rfl (a6 (aZ (ogm rfl rfl (ogm rfl rfl (a7 (ax 0 aL rfl cU (by decide) rfl rfl) rfl (a7 (ah dc rfl hb1 rfl) rfl (a7 (bC (j := 0) (cY rfl rfl) (by decide)) rfl (a7 (eJ 0 rfl rfl rfl (by decide)) rfl ?_)))))))))))))))))))))))))))))))
 refine a7 (ax 14 aG rfl dB (by decide) rfl rfl) rfl (a7 (ar (14 + 0) aD ag rfl rfl (by omega) (by omega)) rfl (ae (cl ag rfl rfl rfl hb4 rfl) ?_))
 rintro _ w5 ⟨hb5, k5, z5⟩
 replace hb1 := hb1.keep k5 (nm ne_b1_b3)
 replace hb2 := hb2.keep k5 (nm ne_b2_b3)
 replace hB := hB.new k5 (nw ge_b3)
 clear z5
 replace hb5 : Bk w5 b3 _ [.int .i64 64, .int .i64 80, .int .i64 1, .int .i64 8, .int .i64 7, .int .i64 19, .int .i64 61, .int .i64 6, .int .i64 28, .int .i64 34, .int .i64 39, .int .i64 14, .int .i64 18, .int .i64 41, .int .u64 ((((KB Hl).getD 0 0) >>> 0).toNat : Int), .int .u64 0, .int .u64 0, .int .u64 0, .int .u64 0, .int .u64 0, .int .u64 0, .int .u64 0] := hb5
 refine a6 (a9 [(1, _), (2, _), (3, _), (8, _), (9, _)] ⟨rfl, rfl, rfl, rfl, rfl, trivial⟩ (bZ (aZ (a7 (bC (j := 1) (ay rfl rfl) (by decide)) rfl (ogm rfl rfl (a6 (cH (a5 (aZ (a7 (bd rfl rfl) rfl (a6 (a5 (bg rfl (by decide) (af (a5 (ab (a5 (aZ (ogm rfl rfl (a7 (gX (cs := iv .u64 8 (wN (KB Hl))) aD ag au rfl rfl (by decide) (bO (by decide))) rfl (oga rfl rfl (oga rfl rfl (a6 (aZ (ogm rfl rfl (ogm rfl rfl (a7 (ax 0 aL rfl cU (by decide) rfl rfl) rfl (a7 (ah dc rfl hb1 rfl) rfl (a7 (bC (j := 0) (cY rfl rfl) (by decide)) rfl (a7 (eJ 0 rfl rfl rfl (by decide)) rfl ?_))))))))))))))))))))))))))))))
 refine a7 (ax 14 aG rfl dB (by decide) rfl rfl) rfl (a7 (ar (14 + 1) aD ag rfl rfl (by omega) (by omega)) rfl (ae (cl ag rfl rfl rfl hb5 rfl) ?_))
 rintro _ w6 ⟨hb6, k6, z6⟩
 replace hb1 := hb1.keep k6 (nm ne_b1_b3)
 replace hb2 := hb2.keep k6 (nm ne_b2_b3)
 replace hB := hB.new k6 (nw ge_b3)
 clear z6
 replace hb6 : Bk w6 b3 _ [.int .i64 64, .int .i64 80, .int .i64 1, .int .i64 8, .int .i64 7, .int .i64 19, .int .i64 61, .int .i64 6, .int .i64 28, .int .i64 34, .int .i64 39, .int .i64 14, .int .i64 18, .int .i64 41, .int .u64 ((((KB Hl).getD 0 0) >>> 0).toNat : Int), .int .u64 ((((KB Hl).getD 1 0) >>> 0).toNat : Int), .int .u64 0, .int .u64 0, .int .u64 0, .int .u64 0, .int .u64 0, .int .u64 0] := hb6
 refine a6 (a9 [(1, _), (2, _), (3, _), (8, _), (9, _)] ⟨rfl, rfl, rfl, rfl, rfl, trivial⟩ (bZ (aZ (a7 (bC (j := 2) (ay rfl rfl) (by decide)) rfl (ogm rfl rfl (a6 (cH (a5 (aZ (a7 (bd rfl rfl) rfl (a6 (a5 (bg rfl (by decide) (af (a5 (ab (a5 (aZ (ogm rfl rfl (a7 (gX (cs := iv .u64 8 (wN (KB Hl))) aD ag au rfl rfl (by decide) (bO (by decide))) rfl (oga rfl rfl (oga rfl rfl (a6 (aZ (ogm rfl rfl (ogm rfl rfl (a7 (ax 0 aL rfl cU (by decide) rfl rfl) rfl (a7 (ah dc rfl hb1 rfl) rfl (a7 (bC (j := 0) (cY rfl rfl) (by decide)) rfl (a7 (eJ 0 rfl rfl rfl (by decide)) rfl ?_))))))))))))))))))))))))))))))
 refine a7 (ax 14 aG rfl dB (by decide) rfl rfl) rfl (a7 (ar (14 + 2) aD ag rfl rfl (by omega) (by omega)) rfl (ae (cl ag rfl rfl rfl hb6 rfl) ?_))
 rintro _ w7 ⟨hb7, k7, z7⟩
 replace hb1 := hb1.keep k7 (nm ne_b1_b3)
 replace hb2 := hb2.keep k7 (nm ne_b2_b3)
 replace hB := hB.new k7 (nw ge_b3)
 clear z7
 replace hb7 : Bk w7 b3 _ [.int .i64 64, .int .i64 80, .int .i64 1, .int .i64 8, .int .i64 7, .int .i64 19, .int .i64 61, .int .i64 6, .int .i64 28, .int .i64 34, .int .i64 39, .int .i64 14, .int .i64 18, .int .i64 41, .int .u64 ((((KB Hl).getD 0 0) >>> 0).toNat : Int), .int .u64 ((((KB Hl).getD 1 0) >>> 0).toNat : Int), .int .u64 ((((KB Hl).getD 2 0) >>> 0).toNat : Int), .int .u64 0, .int .u64 0, .int .u64 0, .int .u64 0, .int .u64 0] := hb7
 refine a6 (a9 [(1, _), (2, _), (3, _), (8, _), (9, _)] ⟨rfl, rfl, rfl, rfl, rfl, trivial⟩ (bZ (aZ (a7 (bC (j := 3) (ay rfl rfl) (by decide)) rfl (ogm rfl rfl (a6 (cH (a5 (aZ (a7 (bd rfl rfl) rfl (a6 (a5 (bg rfl (by decide) (af (a5 (ab (a5 (aZ (ogm rfl rfl (a7 (gX (cs := iv .u64 8 (wN (KB Hl))) aD ag au rfl rfl (by decide) (bO (by decide))) rfl (oga rfl rfl (oga rfl rfl (a6 (aZ (ogm rfl rfl (ogm rfl rfl (a7 (ax 0 aL rfl cU (by decide) rfl rfl) rfl (a7 (ah dc rfl hb1 rfl) rfl (a7 (bC (j := 0) (cY rfl rfl) (by decide)) rfl (a7 (eJ 0 rfl rfl rfl (by decide)) rfl ?_))))))))))))))))))))))))))))))
 refine a7 (ax 14 aG rfl dB (by decide) rfl rfl) rfl (a7 (ar (14 + 3) aD ag rfl rfl (by omega) (by omega)) rfl (ae (cl ag rfl rfl rfl hb7 rfl) ?_))
 rintro _ w8 ⟨hb8, k8, z8⟩
 replace hb1 := hb1.keep k8 (nm ne_b1_b3)
 replace hb2 := hb2.keep k8 (nm ne_b2_b3)
 replace hB := hB.new k8 (nw ge_b3)
 clear z8
 replace hb8 : Bk w8 b3 _ [.int .i64 64, .int .i64 80, .int .i64 1, .int .i64 8, .int .i64 7, .int .i64 19, .int .i64 61, .int .i64 6, .int .i64 28, .int .i64 34, .int .i64 39, .int .i64 14, .int .i64 18, .int .i64 41, .int .u64 ((((KB Hl).getD 0 0) >>> 0).toNat : Int), .int .u64 ((((KB Hl).getD 1 0) >>> 0).toNat : Int), .int .u64 ((((KB Hl).getD 2 0) >>> 0).toNat : Int), .int .u64 ((((KB Hl).getD 3 0) >>> 0).toNat : Int), .int .u64 0, .int .u64 0, .int .u64 0, .int .u64 0] := hb8
 refine a6 (a9 [(1, _), (2, _), (3, _), (8, _), (9, _)] ⟨rfl, rfl, rfl, rfl, rfl, trivial⟩ (bZ (aZ (a7 (bC (j := 4) (ay rfl rfl) (by decide)) rfl (ogm rfl rfl (a6 (cH (a5 (aZ (a7 (bd rfl rfl) rfl (a6 (a5 (bg rfl (by decide) (af (a5 (ab (a5 (aZ (ogm rfl rfl (a7 (gX (cs := iv .u64 8 (wN (KB Hl))) aD ag au rfl rfl (by decide) (bO (by decide))) rfl (oga rfl rfl (oga rfl rfl (a6 (aZ (ogm rfl rfl (ogm rfl rfl (a7 (ax 0 aL rfl cU (by decide) rfl rfl) rfl (a7 (ah dc rfl hb1 rfl) rfl (a7 (bC (j := 0) (cY rfl rfl) (by decide)) rfl (a7 (eJ 0 rfl rfl rfl (by decide)) rfl ?_))))))))))))))))))))))))))))))
 refine a7 (ax 14 aG rfl dB (by decide) rfl rfl) rfl (a7 (ar (14 + 4) aD ag rfl rfl (by omega) (by omega)) rfl (ae (cl ag rfl rfl rfl hb8 rfl) ?_))
 rintro _ w9 ⟨hb9, k9, z9⟩
 replace hb1 := hb1.keep k9 (nm ne_b1_b3)
 replace hb2 := hb2.keep k9 (nm ne_b2_b3)
 replace hB := hB.new k9 (nw ge_b3)
 clear z9
 replace hb9 : Bk w9 b3 _ [.int .i64 64, .int .i64 80, .int .i64 1, .int .i64 8, .int .i64 7, .int .i64 19, .int .i64 61, .int .i64 6, .int .i64 28, .int .i64 34, .int .i64 39, .int .i64 14, .int .i64 18, .int .i64 41, .int .u64 ((((KB Hl).getD 0 0) >>> 0).toNat : Int), .int .u64 ((((KB Hl).getD 1 0) >>> 0).toNat : Int), .int .u64 ((((KB Hl).getD 2 0) >>> 0).toNat : Int), .int .u64 ((((KB Hl).getD 3 0) >>> 0).toNat : Int), .int .u64 ((((KB Hl).getD 4 0) >>> 0).toNat : Int), .int .u64 0, .int .u64 0, .int .u64 0] := hb9
 refine a6 (a9 [(1, _), (2, _), (3, _), (8, _), (9, _)] ⟨rfl, rfl, rfl, rfl, rfl, trivial⟩ (bZ (aZ (a7 (bC (j := 5) (ay rfl rfl) (by decide)) rfl (ogm rfl rfl (a6 (cH (a5 (aZ (a7 (bd rfl rfl) rfl (a6 (a5 (bg rfl (by decide) (af (a5 (ab (a5 (aZ (ogm rfl rfl (a7 (gX (cs := iv .u64 8 (wN (KB Hl))) aD ag au rfl rfl (by decide) (bO (by decide))) rfl (oga rfl rfl (oga rfl rfl (a6 (aZ (ogm rfl rfl (ogm rfl rfl (a7 (ax 0 aL rfl cU (by decide) rfl rfl) rfl (a7 (ah dc rfl hb1 rfl) rfl (a7 (bC (j := 0) (cY rfl rfl) (by decide)) rfl (a7 (eJ 0 rfl rfl rfl (by decide)) rfl ?_))))))))))))))))))))))))))))))
 refine a7 (ax 14 aG rfl dB (by decide) rfl rfl) rfl (a7 (ar (14 + 5) aD ag rfl rfl (by omega) (by omega)) rfl (ae (cl ag rfl rfl rfl hb9 rfl) ?_))
 rintro _ w10 ⟨hb10, k10, z10⟩
 replace hb1 := hb1.keep k10 (nm ne_b1_b3)
 replace hb2 := hb2.keep k10 (nm ne_b2_b3)
 replace hB := hB.new k10 (nw ge_b3)
 clear z10
 replace hb10 : Bk w10 b3 _ [.int .i64 64, .int .i64 80, .int .i64 1, .int .i64 8, .int .i64 7, .int .i64 19, .int .i64 61, .int .i64 6, .int .i64 28, .int .i64 34, .int .i64 39, .int .i64 14, .int .i64 18, .int .i64 41, .int .u64 ((((KB Hl).getD 0 0) >>> 0).toNat : Int), .int .u64 ((((KB Hl).getD 1 0) >>> 0).toNat : Int), .int .u64 ((((KB Hl).getD 2 0) >>> 0).toNat : Int), .int .u64 ((((KB Hl).getD 3 0) >>> 0).toNat : Int), .int .u64 ((((KB Hl).getD 4 0) >>> 0).toNat : Int), .int .u64 ((((KB Hl).getD 5 0) >>> 0).toNat : Int), .int .u64 0, .int .u64 0] := hb10
 refine a6 (a9 [(1, _), (2, _), (3, _), (8, _), (9, _)] ⟨rfl, rfl, rfl, rfl, rfl, trivial⟩ (bZ (aZ (a7 (bC (j := 6) (ay rfl rfl) (by decide)) rfl (ogm rfl rfl (a6 (cH (a5 (aZ (a7 (bd rfl rfl) rfl (a6 (a5 (bg rfl (by decide) (af (a5 (ab (a5 (aZ (ogm rfl rfl (a7 (gX (cs := iv .u64 8 (wN (KB Hl))) aD ag au rfl rfl (by decide) (bO (by decide))) rfl (oga rfl rfl (oga rfl rfl (a6 (aZ (ogm rfl rfl (ogm rfl rfl (a7 (ax 0 aL rfl cU (by decide) rfl rfl) rfl (a7 (ah dc rfl hb1 rfl) rfl (a7 (bC (j := 0) (cY rfl rfl) (by decide)) rfl (a7 (eJ 0 rfl rfl rfl (by decide)) rfl ?_))))))))))))))))))))))))))))))
 refine a7 (ax 14 aG rfl dB (by decide) rfl rfl) rfl (a7 (ar (14 + 6) aD ag rfl rfl (by omega) (by omega)) rfl (ae (cl ag rfl rfl rfl hb10 rfl) ?_))
 rintro _ w11 ⟨hb11, k11, z11⟩
 replace hb1 := hb1.keep k11 (nm ne_b1_b3)
 replace hb2 := hb2.keep k11 (nm ne_b2_b3)
 replace hB := hB.new k11 (nw ge_b3)
 clear z11
 replace hb11 : Bk w11 b3 _ [.int .i64 64, .int .i64 80, .int .i64 1, .int .i64 8, .int .i64 7, .int .i64 19, .int .i64 61, .int .i64 6, .int .i64 28, .int .i64 34, .int .i64 39, .int .i64 14, .int .i64 18, .int .i64 41, .int .u64 ((((KB Hl).getD 0 0) >>> 0).toNat : Int), .int .u64 ((((KB Hl).getD 1 0) >>> 0).toNat : Int), .int .u64 ((((KB Hl).getD 2 0) >>> 0).toNat : Int), .int .u64 ((((KB Hl).getD 3 0) >>> 0).toNat : Int), .int .u64 ((((KB Hl).getD 4 0) >>> 0).toNat : Int), .int .u64 ((((KB Hl).getD 5 0) >>> 0).toNat : Int), .int .u64 ((((KB Hl).getD 6 0) >>> 0).toNat : Int), .int .u64 0] := hb11
 refine a6 (a9 [(1, _), (2, _), (3, _), (8, _), (9, _)] ⟨rfl, rfl, rfl, rfl, rfl, trivial⟩ (bZ (aZ (a7 (bC (j := 7) (ay rfl rfl) (by decide)) rfl (ogm rfl rfl (a6 (cH (a5 (aZ (a7 (bd rfl rfl) rfl (a6 (a5 (bg rfl (by decide) (af (a5 (ab (a5 (aZ (ogm rfl rfl (a7 (gX (cs := iv .u64 8 (wN (KB Hl))) aD ag au rfl rfl (by decide) (bO (by decide))) rfl (oga rfl rfl (oga rfl rfl (a6 (aZ (ogm rfl rfl (ogm rfl rfl (a7 (ax 0 aL rfl cU (by decide) rfl rfl) rfl (a7 (ah dc rfl hb1 rfl) rfl (a7 (bC (j := 0) (cY rfl rfl) (by decide)) rfl (a7 (eJ 0 rfl rfl rfl (by decide)) rfl ?_))))))))))))))))))))))))))))))
 refine a7 (ax 14 aG rfl dB (by decide) rfl rfl) rfl (a7 (ar (14 + 7) aD ag rfl rfl (by omega) (by omega)) rfl (ae (cl ag rfl rfl rfl hb11 rfl) ?_))
 rintro _ w12 ⟨hb12, k12, z12⟩
 replace hb2 := hb2.keep k12 (nm ne_b2_b3)
 replace hB := hB.new k12 (nw ge_b3)
 clear z12
 replace hb12 : Bk w12 b3 _ [.int .i64 64, .int .i64 80, .int .i64 1, .int .i64 8, .int .i64 7, .int .i64 19, .int .i64 61, .int .i64 6, .int .i64 28, .int .i64 34, .int .i64 39, .int .i64 14, .int .i64 18, .int .i64 41, .int .u64 ((((KB Hl).getD 0 0) >>> 0).toNat : Int), .int .u64 ((((KB Hl).getD 1 0) >>> 0).toNat : Int), .int .u64 ((((KB Hl).getD 2 0) >>> 0).toNat : Int), .int .u64 ((((KB Hl).getD 3 0) >>> 0).toNat : Int), .int .u64 ((((KB Hl).getD 4 0) >>> 0).toNat : Int), .int .u64 ((((KB Hl).getD 5 0) >>> 0).toNat : Int), .int .u64 ((((KB Hl).getD 6 0) >>> 0).toNat : Int), .int .u64 ((((KB Hl).getD 7 0) >>> 0).toNat : Int)] := hb12
 refine a6 (a9 [(1, _), (2, _), (3, _), (8, _), (9, _)] ⟨rfl, rfl, rfl, rfl, rfl, trivial⟩ (bZ (aZ (a7 (bC (j := 8) (ay rfl rfl) (by decide)) rfl (ogm rfl rfl (a6 (cH (a5 (aZ (a7 (bd rfl rfl) rfl (a6 (a5 (ci rfl (by decide) (bF rfl (a5 (aZ (a7 (aa (cs' := [_, _, _, _, _, _, _, _, _, _, _, _, _, _, _, _, _, _, _, _, _, _]) ag133 gm rfl hb12 rfl rfl) rfl (ae (bB gm rfl rfl rfl (by simp only [List.forall_mem_cons]; refine ⟨rfl, rfl, rfl, rfl, rfl, rfl, rfl, rfl, rfl, rfl, rfl, rfl, rfl, rfl, rfl, rfl, rfl, rfl, rfl, rfl, rfl, rfl, fun v hv => by cases hv⟩) hb2 rfl) ?_))))))))))))))))))
 rintro _ w13 ⟨hb13, k13, z13⟩
 replace hB := hB.new k13 (nw ge_b2)
 clear z13
 replace hb13 : Bk w13 b2 _ [.int .i64 64, .int .i64 80, .int .i64 1, .int .i64 8, .int .i64 7, .int .i64 19, .int .i64 61, .int .i64 6, .int .i64 28, .int .i64 34, .int .i64 39, .int .i64 14, .int .i64 18, .int .i64 41, .int .u64 ((((KB Hl).getD 0 0) >>> 0).toNat : Int), .int .u64 ((((KB Hl).getD 1 0) >>> 0).toNat : Int), .int .u64 ((((KB Hl).getD 2 0) >>> 0).toNat : Int), .int .u64 ((((KB Hl).getD 3 0) >>> 0).toNat : Int), .int .u64 ((((KB Hl).getD 4 0) >>> 0).toNat : Int), .int .u64 ((((KB Hl).getD 5 0) >>> 0).toNat : Int), .int .u64 ((((KB Hl).getD 6 0) >>> 0).toNat : Int), .int .u64 ((((KB Hl).getD 7 0) >>> 0).toNat : Int)] := hb13
 refine a6 (ba hfin Tryz.results101 rfl (ak ag133 gm hb13 rfl)  ?_)
 refine ⟨?_, hB⟩
 rw [← gH Hl 0, ← gH Hl 1, ← gH Hl 2, ← gH Hl 3, ← gH Hl 4, ← gH Hl 5, ← gH Hl 6, ← gH Hl 7]
theorem qI (p : Nat) (v : Value) (bs : List UInt8) (s : S8 64) (w : World) (hT : Tabs w) (hv : RdB w v bs) (hl : bs.length = 128) (hp : 1 < p) (hnv : ∀ x, x ∈ vblk v → x ∉ [p]) (hbz : Bk w p 133 [.int .i64 64, .int .i64 80, .int .i64 1, .int .i64 8, .int .i64 7, .int .i64 19, .int .i64 61, .int .i64 6, .int .i64 28, .int .i64 34, .int .i64 39, .int .i64 14, .int .i64 18, .int .i64 41, .int .u64 ((s.a).toNat : Int), .int .u64 ((s.b).toNat : Int), .int .u64 ((s.c).toNat : Int), .int .u64 ((s.d).toNat : Int), .int .u64 ((s.e).toNat : Int), .int .u64 ((s.f).toNat : Int), .int .u64 ((s.g).toNat : Int), .int .u64 ((s.h).toNat : Int)]) : Rets Tryz.prog 102 [.pointer (some ⟨p, 0, none⟩), v] w (fun r w' => r = .tuple #[] ∧ Bk w' p 133 [.int .i64 64, .int .i64 80, .int .i64 1, .int .i64 8, .int .i64 7, .int .i64 19, .int .i64 61, .int .i64 6, .int .i64 28, .int .i64 34, .int .i64 39, .int .i64 14, .int .i64 18, .int .i64 41, .int .u64 (((blk cT Kl bs s).a).toNat : Int), .int .u64 (((blk cT Kl bs s).b).toNat : Int), .int .u64 (((blk cT Kl bs s).c).toNat : Int), .int .u64 (((blk cT Kl bs s).d).toNat : Int), .int .u64 (((blk cT Kl bs s).e).toNat : Int), .int .u64 (((blk cT Kl bs s).f).toNat : Int), .int .u64 (((blk cT Kl bs s).g).toNat : Int), .int .u64 (((blk cT Kl bs s).h).toNat : Int)] ∧ Keep [p] w w') := by
  have hB : Keep [p] w w := Keep.refl _ _
  have hcap := hv.vcap
  have hpS : ∀ x, x ∈ [p] → 1 < x := fun x hx => by rw [List.mem_singleton] at hx; omega
  refine ac Tryz.func102 rfl (by decide) Tryz.ntmps102 rfl (fun fin _ hfin => a5 (aZ (ad (aj ty150) rfl ?_)))
  rintro _ w1 ⟨b1, rfl, eb1, hb1, k1, z1⟩
  have ge_b1 : w.heap.size ≤ b1 := by have := hB.size; omega
  have ne_p_b1 : p ≠ b1 := by have := hbz.lt; omega
  replace hbz := hbz.s8 k1
  replace hB := hB.trans k1.weak
  clear eb1 z1
  replace hb1 : Bk w1 b1 150 (iv .u64 80 (fun _ => 0)) := by rw [iv, bE]; exact hb1
  refine a6 (a5 (aZ (ogm rfl rfl (a7 (cf rfl) rfl (a7 (ax 0 aG rfl eR (by decide) rfl rfl) rfl (a7 (ax 0 aL rfl cU (by decide) rfl rfl) rfl (a7 (ah dc rfl hbz rfl) rfl (a7 (bC (j := 8) (es rfl rfl (by decide)) (by decide)) rfl ?_))))))))
  refine oga rfl rfl (a6 (a5 (a5 (aZ (ogm rfl rfl (a6 (ab ?_)))))))
  rw [← wN_nil (n := 64)] at hb1
  refine bK (Γ := Nat) (fun i => [(0, .pointer (some ⟨p, 0, none⟩)), (1, v), (4, .pointer (some ⟨b1, 0, none⟩)), (5, .int .i64 8), (23, .int .i64 (i : Int))]) (fun i W => i ≤ 16 ∧ Bk W b1 150 (iv .u64 80 (wN ((List.range i).map (wrd 64 bs)))) ∧ Bk W p 133 [.int .i64 64, .int .i64 80, .int .i64 1, .int .i64 8, .int .i64 7, .int .i64 19, .int .i64 61, .int .i64 6, .int .i64 28, .int .i64 34, .int .i64 39, .int .i64 14, .int .i64 18, .int .i64 41, .int .u64 ((s.a).toNat : Int), .int .u64 ((s.b).toNat : Int), .int .u64 ((s.c).toNat : Int), .int .u64 ((s.d).toNat : Int), .int .u64 ((s.e).toNat : Int), .int .u64 ((s.f).toNat : Int), .int .u64 ((s.g).toNat : Int), .int .u64 ((s.h).toNat : Int)] ∧ Keep [p] w W) (fun i => 16 - i) 0 ⟨rfl, rfl, rfl, rfl, rfl, trivial⟩ (⟨by omega, hb1, hbz, hB⟩) ?_
  rintro i w2 ⟨hi0, hbw, hbz, hB⟩
  refine a9 [(0, .pointer (some ⟨p, 0, none⟩)), (1, v), (4, .pointer (some ⟨b1, 0, none⟩)), (5, .int .i64 8), (23, .int .i64 (i : Int))] ⟨rfl, rfl, rfl, rfl, rfl, trivial⟩ (a5 (aZ (a7 (bd rfl rfl) rfl (a6 (a5 (bT rfl (fun hc1 => ?_) (fun hc1 => ?_)))))))
  · -- yes
    refine af (a5 (ab (a5 (aZ (ogm rfl rfl (oga rfl rfl (a6 (a5 ?_))))))))
    refine aZ (ogm rfl rfl (ogm rfl rfl (ogm rfl rfl (a7 (fR rfl rfl (by omega)) rfl (ogm rfl rfl (ogm rfl rfl (a7 (fR rfl rfl (by omega)) rfl (ogm rfl rfl ?_))))))))
    refine a7 (bi rfl rfl (by omega)) rfl ?_
    have hcu : RdB _ (cut v (8 * i) (8 * i + 8) 1) ((bs.drop (8 * i)).take (8 * i + 8 - 8 * i)) := (hv.keep hB hnv).cutB (by omega) (by omega)
    rw [show 8 * i + 8 - 8 * i = 8 from by omega] at hcu
    have hcl : ((bs.drop (8 * i)).take 8).length = 8 := by rw [List.length_take, List.length_drop]; omega
    refine a7 (cN (v' := cut v (8 * i) (8 * i + 8) 1) (fo aA cg rfl (hv.keep hB hnv) (.inr ⟨_, _, rfl, rfl⟩) (.inr ⟨_, _, rfl, rfl⟩) (by omega)) (by rw [show ((8 : Int) * (i : Int)).toNat = 8 * i from by omega, show ((8 : Int) * (i : Int) + 8).toNat = 8 * i + 8 from by omega])) rfl (a7 (cN (v' := .int .i64 8) (cB aA rfl hcu) (by rw [hcl]; rfl)) rfl (ogm rfl rfl (a6 (a9 [(0, _), (1, _), (4, _), (5, _), (23, _), (6, _), (35, _), (36, _), (37, _)] ⟨rfl, rfl, rfl, rfl, rfl, rfl, rfl, rfl, rfl, trivial⟩ (ab ?_)))))
    have hw0 := nc ((List.range i).map (wrd 64 bs))
    rw [← hw0] at hbw
    have hwl : ((List.range i).map (wrd 64 bs)).length = i := by simp
    refine bK (Γ := Nat) (fun k => [(0, .pointer (some ⟨p, 0, none⟩)), (1, v), (4, .pointer (some ⟨b1, 0, none⟩)), (5, .int .i64 8), (6, .int .i64 (i : Int)), (23, .int .i64 (i : Int)), (35, (cut v (8 * i) (8 * i + 8) 1)), (36, .int .i64 8), (37, .int .i64 (k : Int))]) (fun k W => k ≤ 8 ∧ Bk W b1 150 (iv .u64 80 (wN (((List.range i).map (wrd 64 bs)) ++ [wrdF 0 (((bs.drop (8 * i)).take 8).take k)]))) ∧ Bk W p 133 [.int .i64 64, .int .i64 80, .int .i64 1, .int .i64 8, .int .i64 7, .int .i64 19, .int .i64 61, .int .i64 6, .int .i64 28, .int .i64 34, .int .i64 39, .int .i64 14, .int .i64 18, .int .i64 41, .int .u64 ((s.a).toNat : Int), .int .u64 ((s.b).toNat : Int), .int .u64 ((s.c).toNat : Int), .int .u64 ((s.d).toNat : Int), .int .u64 ((s.e).toNat : Int), .int .u64 ((s.f).toNat : Int), .int .u64 ((s.g).toNat : Int), .int .u64 ((s.h).toNat : Int)] ∧ Keep [p] w W) (fun k => 8 - k) 0 ⟨rfl, rfl, rfl, rfl, rfl, rfl, rfl, rfl, rfl, trivial⟩ (⟨by omega, hbw, hbz, hB⟩) ?_
    rintro k w3 ⟨hk0, hbw, hbz, hB⟩
    refine a9 [(0, .pointer (some ⟨p, 0, none⟩)), (1, v), (4, .pointer (some ⟨b1, 0, none⟩)), (5, .int .i64 8), (6, .int .i64 (i : Int)), (23, .int .i64 (i : Int)), (35, (cut v (8 * i) (8 * i + 8) 1)), (36, .int .i64 8), (37, .int .i64 (k : Int))] ⟨rfl, rfl, rfl, rfl, rfl, rfl, rfl, rfl, rfl, trivial⟩ (a5 (aZ (a7 (bd rfl rfl) rfl (a6 (a5 (bT rfl (fun hc2 => ?_) (fun hc2 => ?_)))))))
    · -- yes
      refine af (a5 (ab (a5 (aZ ?_))))
      have hcu : RdB _ (cut v (8 * i) (8 * i + 8) 1) ((bs.drop (8 * i)).take (8 * i + 8 - 8 * i)) := (hv.keep hB hnv).cutB (by omega) (by omega)
      rw [show 8 * i + 8 - 8 * i = 8 from by omega] at hcu
      refine a7 (bk aA cg rfl (by first | assumption | exact Own.rd (by assumption) | exact Rd.s8 (by assumption) hB | exact Own.rd (Own.s8 (by assumption) hB)) rfl (by omega)) rfl ?_
      obtain ⟨c, hc⟩ : ∃ c, ((bs.drop (8 * i)).take 8)[k]? = some c := ⟨_, List.getElem?_eq_getElem (by omega)⟩
      have hgc : gb ((bs.drop (8 * i)).take 8) (k : Int) = (c.toNat : Int) := by unfold gb; rw [List.getD_eq_getElem?_getD, Int.toNat_natCast, hc]; rfl
      refine a7 (cN (v' := .int .u8 (c.toNat : Int)) (dT iI rfl hcu (by omega)) (by rw [hgc])) rfl (oga rfl rfl (a6 (aZ (ogm rfl rfl (ogm rfl rfl (a7 (ar i aV ag rfl rfl (by omega) (by omega)) rfl (a7 (cN (v' := .int .u64 ((wrdF 0 (((bs.drop (8 * i)).take 8).take k)).toNat : Int)) (ah au rfl hbw (bO (by omega))) (by rw [nd _ _ hwl])) rfl (a7 (lB 8 rfl rfl rfl (by decide)) rfl ?_))))))))
      refine ogm rfl rfl (a7 (gb_cv c (by rw [aH]; rfl) aN rfl rfl) rfl (a7 (oM rfl rfl) rfl (a7 (ar i aV ag rfl rfl (by omega) (by omega)) rfl (ae (ck (v := ((((wrdF 0 (((bs.drop (8 * i)).take 8).take k)) <<< 8) ||| (BitVec.ofNat 64 c.toNat)).toNat : Int)) ag rfl rfl hbw (by omega)) ?_))))
      rintro _ w4 ⟨hb2, k2, z2⟩
      replace hbz := hbz.keep k2 (nm ne_p_b1)
      replace hB := hB.new k2 (nw ge_b1)
      clear z2
      refine a6 (a9 [(0, _), (1, _), (4, _), (5, _), (6, _), (23, _), (35, _), (36, _), (37, _)] ⟨rfl, rfl, rfl, rfl, rfl, rfl, rfl, rfl, rfl, trivial⟩ (bZ (aZ (a7 (bi rfl rfl (by omega)) rfl (ogm rfl rfl (a6 (bM (Γ := Nat) (k + 1) ⟨rfl, rfl, rfl, rfl, rfl, rfl, rfl, rfl, rfl, trivial⟩ (by (try dsimp only); omega) (⟨by omega, by rw [jp hc, ← i4 _ (wrdF 0 (((bs.drop (8 * i)).take 8).take k)) _ hwl]; exact hb2, hbz, hB⟩))))))))
    · -- no
      refine bF rfl (bZ (aZ (a7 (bi rfl rfl (by omega)) rfl (ogm rfl rfl (a6 ?_)))))
      obtain rfl : k = 8 := by omega
      rw [List.take_of_length_le (show ((bs.drop (8 * i)).take 8).length ≤ 8 from by omega)] at hbw
      refine bM (Γ := Nat) (i + 1) ⟨rfl, rfl, rfl, rfl, rfl, trivial⟩ (by (try dsimp only); omega) (⟨by omega, by rw [jo]; exact hbw, hbz, hB⟩)
  · -- no
    refine bF rfl (a5 (a5 (aZ (oga rfl rfl (a6 (ab ?_))))))
    obtain rfl : i = 16 := by omega
    refine bK (Γ := Nat) (fun t => [(0, .pointer (some ⟨p, 0, none⟩)), (4, .pointer (some ⟨b1, 0, none⟩)), (9, .int .i64 (t : Int))]) (fun t W => 16 ≤ t ∧ t ≤ 80 ∧ Bk W b1 150 (iv .u64 80 (wN (sch cT bs (t - 16)))) ∧ Bk W p 133 [.int .i64 64, .int .i64 80, .int .i64 1, .int .i64 8, .int .i64 7, .int .i64 19, .int .i64 61, .int .i64 6, .int .i64 28, .int .i64 34, .int .i64 39, .int .i64 14, .int .i64 18, .int .i64 41, .int .u64 ((s.a).toNat : Int), .int .u64 ((s.b).toNat : Int), .int .u64 ((s.c).toNat : Int), .int .u64 ((s.d).toNat : Int), .int .u64 ((s.e).toNat : Int), .int .u64 ((s.f).toNat : Int), .int .u64 ((s.g).toNat : Int), .int .u64 ((s.h).toNat : Int)] ∧ Keep [p] w W) (fun t => 80 - t) 16 ⟨rfl, rfl, rfl, trivial⟩ (⟨by omega, by omega, hbw, hbz, hB⟩) ?_
    rintro t w5 ⟨ht0, ht1, hbw, hbz, hB⟩
    refine a9 [(0, .pointer (some ⟨p, 0, none⟩)), (4, .pointer (some ⟨b1, 0, none⟩)), (9, .int .i64 (t : Int))] ⟨rfl, rfl, rfl, trivial⟩ (a5 (a5 (aZ (ogm rfl rfl (ogm rfl rfl (a7 (cf rfl) rfl (a7 (ax 0 aG rfl eR (by decide) rfl rfl) rfl (a7 (ax 1 aL rfl cU (by decide) rfl rfl) rfl ?_))))))))
    refine a7 (ah dc rfl hbz rfl) rfl (a7 (bd rfl rfl) rfl (a6 (bT rfl (fun hc3 => ?_) (fun hc3 => ?_))))
    · -- yes
      refine af (a5 (ab (bf 34 [0, 1, 2, 3, 4, 5, 6, 7, 8, 9, 10, 12, 13, 14, 15, 17, 18, 19, 20, 21, 22, 23, 24, 25, 26, 29, 30, 31, 32, 11, 16, 27, 28, 33] [11, 27] [] mixed [(9, _), (0, _), (4, _)] ⟨rfl, rfl, rfl, trivial⟩ (by decide +kernel) rfl (fun w6 k3 => ?_))))
      obtain ⟨hbw, hbz⟩ := kF k3 hbw hbz
      replace hB := hB.trans k3.weak
      refine bL 9 rfl rfl rfl rfl rfl (bL 0 rfl rfl rfl rfl rfl (bL 9 rfl rfl rfl rfl rfl (am 63 rfl rfl rfl rfl (fun W' kk => cj rfl rfl (by omega)) (cF 4 64 rfl rfl rfl rfl rfl (fun W' kk => ar (t - 2) aV ag rfl rfl (by omega) (by omega)) (am 65 rfl rfl rfl rfl (fun W' kk => ah au rfl (Bk.s8 hbw kk) (bO (by omega))) (bL 0 rfl rfl rfl rfl rfl (am 67 rfl rfl rfl rfl (fun W' kk => cf rfl) (am 68 rfl rfl rfl rfl (fun W' kk => ax 0 aG rfl eR (by decide) rfl rfl) ?_))))))))
      refine am 69 rfl rfl rfl rfl (fun W' kk => ax 5 aL rfl fj (by decide) rfl rfl) (am 70 rfl rfl rfl rfl (fun W' kk => aa (cs' := [_, _, _]) od fj rfl (Bk.s8 hbz kk) rfl rfl) (bL 9 rfl rfl rfl rfl rfl (am 73 rfl rfl rfl rfl (fun W' kk => cj rfl rfl (by omega)) (cF 4 74 rfl rfl rfl rfl rfl (fun W' kk => ar (t - 7) aV ag rfl rfl (by omega) (by omega)) (am 75 rfl rfl rfl rfl (fun W' kk => ah au rfl (Bk.s8 hbw kk) (bO (by omega))) (bL 0 rfl rfl rfl rfl rfl (bL 9 rfl rfl rfl rfl rfl (am 79 rfl rfl rfl rfl (fun W' kk => cj rfl rfl (by omega)) ?_))))))))
      refine cF 4 80 rfl rfl rfl rfl rfl (fun W' kk => ar (t - 15) aV ag rfl rfl (by omega) (by omega)) (am 81 rfl rfl rfl rfl (fun W' kk => ah au rfl (Bk.s8 hbw kk) (bO (by omega))) (bL 0 rfl rfl rfl rfl rfl (am 83 rfl rfl rfl rfl (fun W' kk => cf rfl) (am 84 rfl rfl rfl rfl (fun W' kk => ax 0 aG rfl eR (by decide) rfl rfl) (am 85 rfl rfl rfl rfl (fun W' kk => ax 2 aL rfl fj (by decide) rfl rfl) (am 86 rfl rfl rfl rfl (fun W' kk => aa (cs' := [_, _, _]) od fj rfl (Bk.s8 hbz kk) rfl rfl) (bL 9 rfl rfl rfl rfl rfl (am 90 rfl rfl rfl rfl (fun W' kk => cj rfl rfl (by omega)) ?_))))))))
      refine cF 4 91 rfl rfl rfl rfl rfl (fun W' kk => ar (t - 16) aV ag rfl rfl (by omega) (by omega)) (am 92 rfl rfl rfl rfl (fun W' kk => ah au rfl (Bk.s8 hbw kk) (bO (by omega))) (bq [(62, _), (66, _), (71, _)] rfl rfl ⟨rfl, rfl, rfl, trivial⟩ rfl (a8 (vs := [_, _, _]) rfl (oB p _ _ _ _ _ _ _ _ _ _ _ _ _ _ _ _ _ _ _ _ _ ((sch cT bs (t - 16)).getD (t - 2) 0) 19 61 6 (by decide) (by decide) (by decide) _ hbz)) ?_))
      rintro _ w7 ⟨rfl, k4⟩
      refine ⟨k4, ?_⟩
      obtain ⟨hbw, hbz⟩ := kF k4 hbw hbz
      replace hB := hB.trans k4.weak
      refine cF 72 76 rfl rfl rfl rfl rfl (fun W' kk => cQ rfl rfl) (bq [(78, _), (82, _), (87, _)] rfl rfl ⟨rfl, rfl, rfl, trivial⟩ rfl (a8 (vs := [_, _, _]) rfl (oB p _ _ _ _ _ _ _ _ _ _ _ _ _ _ _ _ _ _ _ _ _ ((sch cT bs (t - 16)).getD (t - 15) 0) 1 8 7 (by decide) (by decide) (by decide) _ hbz)) ?_)
      rintro _ w8 ⟨rfl, k5⟩
      refine ⟨k5, ?_⟩
      obtain ⟨hbw, hbz⟩ := kF k5 hbw hbz
      replace hB := hB.trans k5.weak
      refine cF 77 88 rfl rfl rfl rfl rfl (fun W' kk => cQ rfl rfl) (cF 89 93 rfl rfl rfl rfl rfl (fun W' kk => cQ rfl rfl) (bz (a7 (ar t aV ag rfl rfl (by omega) (by omega)) rfl (ae (ck (v := (((((lo (19, 61, 6) ((sch cT bs (t - 16)).getD (t - 2) 0)) + ((sch cT bs (t - 16)).getD (t - 7) 0)) + (lo (1, 8, 7) ((sch cT bs (t - 16)).getD (t - 15) 0))) + ((sch cT bs (t - 16)).getD (t - 16) 0)).toNat : Int)) ag rfl rfl hbw (by omega)) ?_))))
      rintro _ w9 ⟨hb3, k6, z3⟩
      replace hbz := hbz.keep k6 (nm ne_p_b1)
      replace hB := hB.new k6 (nw ge_b1)
      clear z3
      refine a6 (a9 [(9, _), (0, _), (4, _)] ⟨rfl, rfl, rfl, trivial⟩ (bZ (aZ (ogm rfl rfl (a7 (bi rfl rfl (by omega)) rfl (oga rfl rfl (a6 (bM (Γ := Nat) (t + 1) ⟨rfl, rfl, rfl, trivial⟩ (by (try dsimp only); omega) (⟨by omega, by omega, by rw [show t + 1 - 16 = (t - 16) + 1 from by omega, sch, ← mb _ _ (by rw [e7]; omega : (sch cT bs (t - 16)).length = t), show 16 + (t - 16) = t from by omega]; exact hb3, hbz, hB⟩)))))))))
    · -- no
      refine bF rfl (a5 (aZ (ogm rfl rfl (a7 (cf rfl) rfl (a7 (ax 14 aG rfl dB (by decide) rfl rfl) rfl (a7 (aa (cs' := [_, _, _, _, _, _, _, _]) sZ dB rfl hbz rfl rfl) rfl (ad (aj dB) rfl ?_)))))))
      rintro _ w10 ⟨b2, rfl, eb2, hb4, k7, z4⟩
      have ge_b2 : w.heap.size ≤ b2 := by have := hB.size; omega
      have ne_b1_b2 : b1 ≠ b2 := by have := hbw.lt; omega
      have ne_p_b2 : p ≠ b2 := by have := hbz.lt; omega
      obtain ⟨hbw, hbz⟩ := kF k7 hbw hbz
      replace hB := hB.trans k7.weak
      clear eb2 z4
      refine ae (bB dB rfl rfl rfl (by simp only [List.forall_mem_cons]; refine ⟨rfl, rfl, rfl, rfl, rfl, rfl, rfl, rfl, fun v hv => by cases hv⟩) hb4 rfl) ?_
      rintro _ w11 ⟨hb5, k8, z5⟩
      replace hbw := hbw.keep k8 (nm ne_b1_b2)
      replace hbz := hbz.keep k8 (nm ne_p_b2)
      replace hB := hB.new k8 (nw ge_b2)
      clear z5
      replace hb5 : Bk w11 b2 _ [.int .u64 ((s.a).toNat : Int), .int .u64 ((s.b).toNat : Int), .int .u64 ((s.c).toNat : Int), .int .u64 ((s.d).toNat : Int), .int .u64 ((s.e).toNat : Int), .int .u64 ((s.f).toNat : Int), .int .u64 ((s.g).toNat : Int), .int .u64 ((s.h).toNat : Int)] := hb5
      refine a6 (a9 [(0, _), (4, _), (10, _)] ⟨rfl, rfl, rfl, trivial⟩ (a5 (a5 (aZ (ogm rfl rfl (a7 (cf rfl) rfl (a7 (ax 0 aG rfl eR (by decide) rfl rfl) rfl (a7 (ax 1 aL rfl cU (by decide) rfl rfl) rfl ?_))))))))
      refine a7 (ah dc rfl hbz rfl) rfl (ogm rfl rfl (a6 (ab ?_)))
      obtain rfl : t = 80 := by omega
      refine bK (Γ := Nat × S8 64) (fun ⟨i, X⟩ => [(0, .pointer (some ⟨p, 0, none⟩)), (4, .pointer (some ⟨b1, 0, none⟩)), (10, .pointer (some ⟨b2, 0, none⟩)), (104, .int .i64 80), (105, .int .i64 (i : Int))]) (fun ⟨i, X⟩ W => i ≤ 80 ∧ X = rnds cT Kl (sch cT bs 64) s i ∧ Bk W b1 150 (iv .u64 80 (wN (sch cT bs 64))) ∧ Bk W p 133 [.int .i64 64, .int .i64 80, .int .i64 1, .int .i64 8, .int .i64 7, .int .i64 19, .int .i64 61, .int .i64 6, .int .i64 28, .int .i64 34, .int .i64 39, .int .i64 14, .int .i64 18, .int .i64 41, .int .u64 ((s.a).toNat : Int), .int .u64 ((s.b).toNat : Int), .int .u64 ((s.c).toNat : Int), .int .u64 ((s.d).toNat : Int), .int .u64 ((s.e).toNat : Int), .int .u64 ((s.f).toNat : Int), .int .u64 ((s.g).toNat : Int), .int .u64 ((s.h).toNat : Int)] ∧ Bk W b2 131 [.int .u64 ((X.a).toNat : Int), .int .u64 ((X.b).toNat : Int), .int .u64 ((X.c).toNat : Int), .int .u64 ((X.d).toNat : Int), .int .u64 ((X.e).toNat : Int), .int .u64 ((X.f).toNat : Int), .int .u64 ((X.g).toNat : Int), .int .u64 ((X.h).toNat : Int)] ∧ Keep [p] w W) (fun ⟨i, X⟩ => 80 - i) ⟨0, s⟩ ⟨rfl, rfl, rfl, rfl, rfl, trivial⟩ (⟨by omega, rfl, hbw, hbz, hb5, hB⟩) ?_
      rintro ⟨i, X⟩ w12 ⟨hi0, hX, hbw, hbz, hbx, hB⟩
      refine a9 [(0, .pointer (some ⟨p, 0, none⟩)), (4, .pointer (some ⟨b1, 0, none⟩)), (10, .pointer (some ⟨b2, 0, none⟩)), (104, .int .i64 80), (105, .int .i64 (i : Int))] ⟨rfl, rfl, rfl, rfl, rfl, trivial⟩ (a5 (aZ (a7 (bd rfl rfl) rfl (a6 (a5 (bT rfl (fun hc4 => ?_) (fun hc4 => ?_)))))))
      · -- yes
        refine af (a5 (ab (a5 (aZ (ogm rfl rfl (oga rfl rfl (a6 (a5 ?_))))))))
        refine eL mixed (by decide +kernel) (fun w13 k9 => ?_)
        obtain ⟨hbw, hbz, hbx⟩ := kp3 k9 hbw hbz hbx
        replace hB := hB.trans k9.weak
        refine ao (ar 4 aD ag rfl rfl (by omega) (by omega)) rfl (ao (ah au rfl hbx rfl) rfl (ao (ar 0 aD ag rfl rfl (by omega) (by omega)) rfl (ao (ah au rfl hbx rfl) rfl (ao (fe rfl) rfl (ao (fe rfl) rfl (cV (a6 (a5 ?_))))))))
        refine bf 37 [0, 1, 2, 3, 4, 5, 6, 7, 8, 11, 12, 13, 14, 15, 16, 17, 18, 19, 20, 22, 23, 24, 25, 26, 27, 28, 29, 30, 31, 33, 34, 35, 9, 10, 21, 32, 36] [9] [] mixed [(10, _), (0, _), (12, _), (11, _), (4, _), (104, _), (105, _), (13, _)] ⟨rfl, rfl, rfl, rfl, rfl, rfl, rfl, rfl, trivial⟩ (by decide +kernel) rfl (fun w14 k10 => ?_)
        obtain ⟨hbw, hbz, hbx⟩ := kp3 k10 hbw hbz hbx
        replace hB := hB.trans k10.weak
        refine am 10 rfl rfl rfl rfl (fun W' kk => ar 7 aD ag rfl rfl (by omega) (by omega)) (am 112 rfl rfl rfl rfl (fun W' kk => ah au rfl (Bk.s8 hbx kk) rfl) (bL 0 rfl rfl rfl rfl rfl (bL 12 rfl rfl rfl rfl rfl (bL 0 rfl rfl rfl rfl rfl (am 116 rfl rfl rfl rfl (fun W' kk => cf rfl) (am 117 rfl rfl rfl rfl (fun W' kk => ax 0 aG rfl eR (by decide) rfl rfl) (am 118 rfl rfl rfl rfl (fun W' kk => ax 11 aL rfl fj (by decide) rfl rfl) (am 119 rfl rfl rfl rfl (fun W' kk => aa (cs' := [_, _, _]) od fj rfl (Bk.s8 hbz kk) rfl rfl) ?_))))))))
        refine bL 12 rfl rfl rfl rfl rfl (am 10 rfl rfl rfl rfl (fun W' kk => ar 5 aD ag rfl rfl (by omega) (by omega)) (am 124 rfl rfl rfl rfl (fun W' kk => ah au rfl (Bk.s8 hbx kk) rfl) (cF 123 125 rfl rfl rfl rfl rfl (fun W' kk => fG rfl rfl) (bL 12 rfl rfl rfl rfl rfl (am 127 rfl rfl rfl rfl (fun W' kk => rg rfl) (am 10 rfl rfl rfl rfl (fun W' kk => ar 6 aD ag rfl rfl (by omega) (by omega)) (am 129 rfl rfl rfl rfl (fun W' kk => ah au rfl (Bk.s8 hbx kk) rfl) (cF 128 130 rfl rfl rfl rfl rfl (fun W' kk => fG rfl rfl) ?_))))))))
        refine cF 126 131 rfl rfl rfl rfl rfl (fun W' kk => eV rfl rfl) (bL 11 rfl rfl rfl rfl rfl (am 134 rfl rfl rfl rfl (fun W' kk => ar i aV ag rfl rfl (by omega) (by omega)) (am 135 rfl rfl rfl rfl (fun W' kk => g_ld au rfl ((hT.keep (hB.trans kk.weak) hpS).cube (by omega))) (bL 0 rfl rfl rfl rfl rfl (am 137 rfl rfl rfl rfl (fun W' kk => cf rfl) (am 138 rfl rfl rfl rfl (fun W' kk => ax 0 aG rfl eR (by decide) rfl rfl) (am 139 rfl rfl rfl rfl (fun W' kk => ax 0 aL rfl cU (by decide) rfl rfl) (am 140 rfl rfl rfl rfl (fun W' kk => ah dc rfl (Bk.s8 hbz kk) rfl) ?_))))))))
        refine am 141 rfl rfl rfl rfl (fun W' kk => bC (j := 0) (cY rfl rfl) (by decide)) (cF 136 142 rfl rfl rfl rfl rfl (fun W' kk => eJ 0 rfl rfl rfl (by decide)) (bL 11 rfl rfl rfl rfl rfl (cF 4 145 rfl rfl rfl rfl rfl (fun W' kk => ar i aV ag rfl rfl (by omega) (by omega)) (am 146 rfl rfl rfl rfl (fun W' kk => ah au rfl (Bk.s8 hbw kk) (bO (by omega))) (bq [(114, _), (115, _), (120, _)] rfl rfl ⟨rfl, rfl, rfl, trivial⟩ rfl (a8 (vs := [_, _, _]) rfl (mP p _ _ _ _ _ _ _ _ _ _ _ _ _ _ _ _ _ _ _ _ _ X.e 14 18 41 (by decide) (by decide) (by decide) _ hbz)) ?_)))))
        rintro _ w15 ⟨rfl, k11⟩
        refine ⟨k11, ?_⟩
        obtain ⟨hbw, hbz, hbx⟩ := kp3 k11 hbw hbz hbx
        replace hB := hB.trans k11.weak
        refine cF 113 121 rfl rfl rfl rfl rfl (fun W' kk => cQ rfl rfl) (cF 122 132 rfl rfl rfl rfl rfl (fun W' kk => cQ rfl rfl) (cF 133 143 rfl rfl rfl rfl rfl (fun W' kk => cQ rfl rfl) (cF 144 147 rfl rfl rfl rfl rfl (fun W' kk => cQ rfl rfl) (bz (oga rfl rfl (a6 (a9 [(10, _), (0, _), (4, _), (104, _), (105, _), (13, _), (14, _)] ⟨rfl, rfl, rfl, rfl, rfl, rfl, rfl, trivial⟩ (a5 ?_))))))))
        refine bf 24 [0, 1, 2, 3, 4, 5, 6, 8, 9, 10, 11, 12, 13, 14, 15, 16, 17, 18, 19, 20, 21, 22, 7, 23] [7] [] mixed [(0, _), (13, _), (10, _), (4, _), (104, _), (105, _), (14, _)] ⟨rfl, rfl, rfl, rfl, rfl, rfl, rfl, trivial⟩ (by decide +kernel) rfl (fun w16 k12 => ?_)
        obtain ⟨hbw, hbz, hbx⟩ := kp3 k12 hbw hbz hbx
        replace hB := hB.trans k12.weak
        refine bL 0 rfl rfl rfl rfl rfl (bL 13 rfl rfl rfl rfl rfl (bL 0 rfl rfl rfl rfl rfl (am 151 rfl rfl rfl rfl (fun W' kk => cf rfl) (am 152 rfl rfl rfl rfl (fun W' kk => ax 0 aG rfl eR (by decide) rfl rfl) (am 153 rfl rfl rfl rfl (fun W' kk => ax 8 aL rfl fj (by decide) rfl rfl) (am 154 rfl rfl rfl rfl (fun W' kk => aa (cs' := [_, _, _]) od fj rfl (Bk.s8 hbz kk) rfl rfl) (bL 13 rfl rfl rfl rfl rfl (am 10 rfl rfl rfl rfl (fun W' kk => ar 1 aD ag rfl rfl (by omega) (by omega)) ?_))))))))
        refine am 158 rfl rfl rfl rfl (fun W' kk => ah au rfl (Bk.s8 hbx kk) rfl) (cF 157 159 rfl rfl rfl rfl rfl (fun W' kk => fG rfl rfl) (bL 13 rfl rfl rfl rfl rfl (am 10 rfl rfl rfl rfl (fun W' kk => ar 2 aD ag rfl rfl (by omega) (by omega)) (am 162 rfl rfl rfl rfl (fun W' kk => ah au rfl (Bk.s8 hbx kk) rfl) (cF 161 163 rfl rfl rfl rfl rfl (fun W' kk => fG rfl rfl) (cF 160 164 rfl rfl rfl rfl rfl (fun W' kk => eV rfl rfl) (am 10 rfl rfl rfl rfl (fun W' kk => ar 1 aD ag rfl rfl (by omega) (by omega)) (am 166 rfl rfl rfl rfl (fun W' kk => ah au rfl (Bk.s8 hbx kk) rfl) ?_))))))))
        refine am 10 rfl rfl rfl rfl (fun W' kk => ar 2 aD ag rfl rfl (by omega) (by omega)) (am 168 rfl rfl rfl rfl (fun W' kk => ah au rfl (Bk.s8 hbx kk) rfl) (cF 167 169 rfl rfl rfl rfl rfl (fun W' kk => fG rfl rfl) (cF 165 170 rfl rfl rfl rfl rfl (fun W' kk => eV rfl rfl) (bq [(149, _), (150, _), (155, _)] rfl rfl ⟨rfl, rfl, rfl, trivial⟩ rfl (a8 (vs := [_, _, _]) rfl (mP p _ _ _ _ _ _ _ _ _ _ _ _ _ _ _ _ _ _ _ _ _ X.a 28 34 39 (by decide) (by decide) (by decide) _ hbz)) ?_))))
        rintro _ w17 ⟨rfl, k13⟩
        refine ⟨k13, ?_⟩
        obtain ⟨hbw, hbz, hbx⟩ := kp3 k13 hbw hbz hbx
        replace hB := hB.trans k13.weak
        refine cF 156 171 rfl rfl rfl rfl rfl (fun W' kk => cQ rfl rfl) (bz (oga rfl rfl (a6 (a9 [(0, _), (10, _), (4, _), (104, _), (105, _), (14, _), (15, _)] ⟨rfl, rfl, rfl, rfl, rfl, rfl, rfl, trivial⟩ (a5 (cJ 2 mixed (by decide +kernel) (fun w18 k14 => ?_)))))))
        obtain ⟨hbw, hbz, hbx⟩ := kp3 k14 hbw hbz hbx
        replace hB := hB.trans k14.weak
        refine ao (g_sla (l := 1) (h := 8) aD ag rfl (.inr ⟨_, _, rfl, rfl⟩) (.inl ⟨rfl, rfl⟩) (by decide) (by decide)) rfl (ao (g_sla (l := 0) (h := 7) aD ag rfl (.inl ⟨rfl, rfl⟩) (.inr ⟨_, _, rfl, rfl⟩) (by decide) (by decide)) rfl (cV (ad (d_cpr (k := 7) aC ag rfl rfl hbx (by simp only [List.forall_mem_cons]; exact ⟨rfl, rfl, rfl, rfl, rfl, rfl, rfl, rfl, fun v hv => by cases hv⟩) rfl (Nat.le_of_ble_eq_true rfl) (Nat.le_of_ble_eq_true rfl)) rfl ?_)))
        rintro _ w19 ⟨rfl, hb6, k15, z6⟩
        replace hbw := hbw.keep k15 (nm ne_b1_b2)
        replace hbz := hbz.keep k15 (nm ne_p_b2)
        replace hB := hB.new k15 (nw ge_b2)
        clear z6
        replace hb6 : Bk w19 b2 131 [.int .u64 ((X.a).toNat : Int), .int .u64 ((X.a).toNat : Int), .int .u64 ((X.b).toNat : Int), .int .u64 ((X.c).toNat : Int), .int .u64 ((X.d).toNat : Int), .int .u64 ((X.e).toNat : Int), .int .u64 ((X.f).toNat : Int), .int .u64 ((X.g).toNat : Int)] := hb6
        refine a6 (a5 (aZ (a7 (ar 4 aD ag rfl rfl (by omega) (by omega)) rfl (a7 (ah au rfl hb6 rfl) rfl (ogm rfl rfl (a7 (cQ rfl rfl) rfl (a7 (ar 4 aD ag rfl rfl (by omega) (by omega)) rfl (ae (cl ag rfl rfl rfl hb6 rfl) ?_))))))))
        rintro _ w20 ⟨hb7, k16, z7⟩
        replace hbw := hbw.keep k16 (nm ne_b1_b2)
        replace hbz := hbz.keep k16 (nm ne_p_b2)
        replace hB := hB.new k16 (nw ge_b2)
        clear z7
        replace hb7 : Bk w20 b2 _ [.int .u64 ((X.a).toNat : Int), .int .u64 ((X.a).toNat : Int), .int .u64 ((X.b).toNat : Int), .int .u64 ((X.c).toNat : Int), .int .u64 ((X.d + ((((X.h + (hi (14, 18, 41) X.e)) + ((X.e &&& X.f) ^^^ ((~~~X.e) &&& X.g))) + (((KB Kl).getD i 0) >>> 0)) + ((sch cT bs 64).getD i 0))).toNat : Int), .int .u64 ((X.e).toNat : Int), .int .u64 ((X.f).toNat : Int), .int .u64 ((X.g).toNat : Int)] := hb7
        refine a6 (aZ (ogm rfl rfl (ogm rfl rfl (a7 (cQ rfl rfl) rfl (a7 (ar 0 aD ag rfl rfl (by omega) (by omega)) rfl (ae (cl ag rfl rfl rfl hb7 rfl) ?_))))))
        rintro _ w21 ⟨hb8, k17, z8⟩
        replace hbw := hbw.keep k17 (nm ne_b1_b2)
        replace hbz := hbz.keep k17 (nm ne_p_b2)
        replace hB := hB.new k17 (nw ge_b2)
        clear z8
        replace hb8 : Bk w21 b2 _ [.int .u64 ((((((X.h + (hi (14, 18, 41) X.e)) + ((X.e &&& X.f) ^^^ ((~~~X.e) &&& X.g))) + (((KB Kl).getD i 0) >>> 0)) + ((sch cT bs 64).getD i 0)) + ((hi (28, 34, 39) X.a) + (((X.a &&& X.b) ^^^ (X.a &&& X.c)) ^^^ (X.b &&& X.c)))).toNat : Int), .int .u64 ((X.a).toNat : Int), .int .u64 ((X.b).toNat : Int), .int .u64 ((X.c).toNat : Int), .int .u64 ((X.d + ((((X.h + (hi (14, 18, 41) X.e)) + ((X.e &&& X.f) ^^^ ((~~~X.e) &&& X.g))) + (((KB Kl).getD i 0) >>> 0)) + ((sch cT bs 64).getD i 0))).toNat : Int), .int .u64 ((X.e).toNat : Int), .int .u64 ((X.f).toNat : Int), .int .u64 ((X.g).toNat : Int)] := hb8
        refine a6 (a9 [(0, _), (10, _), (4, _), (104, _), (105, _)] ⟨rfl, rfl, rfl, rfl, rfl, trivial⟩ (bZ (aZ (a7 (bi rfl rfl (by omega)) rfl (ogm rfl rfl (a6 (bM (Γ := Nat × S8 64) ⟨i + 1, rnd cT (cst 64 Kl i) ((sch cT bs 64).getD i 0) X⟩ ⟨rfl, rfl, rfl, rfl, rfl, trivial⟩ (by (try dsimp only); omega) (⟨by omega, by rw [hX]; rfl, hbw, hbz, by rw [← gH]; exact hb8, hB⟩))))))))
      · -- no
        refine bF rfl (a5 (aZ (ogm rfl rfl (a6 (ab (d8 9 (a5 (aZ ?_))))))))
        refine a7 (bd rfl rfl) rfl (a6 (a5 (bg rfl (by decide) (af (a5 (ab (a5 (aZ ?_))))))))
        refine ogm rfl rfl (oga rfl rfl (a6 (bW 12 [0, 1, 2, 3, 4, 5, 6, 7, 8, 9, 10, 11] [] [] [] mixed [(0, _), (16, _), (10, _), (186, _)] ⟨rfl, rfl, rfl, rfl, trivial⟩ (by decide +kernel) (by decide) (by decide) ?_ (fun x hx => by cases hx) rfl (fun w22 k18 => ?_))))
        · intro q hq; cases hq
        obtain ⟨hbz, hbx⟩ := kF k18 hbz hbx
        replace hB := hB.trans k18.weak
        refine bu 0 rfl rfl rfl rfl rfl (bu 16 rfl rfl rfl rfl rfl (al 189 rfl rfl rfl rfl (fun W' kk => cf rfl) (al 191 rfl rfl rfl rfl (fun W' kk => ax 14 aG rfl dB (by decide) rfl rfl) (cn 190 192 rfl rfl rfl rfl rfl (fun W' kk => ar (14 + 0) aD ag rfl rfl (by omega) (by omega)) (al 193 rfl rfl rfl rfl (fun W' kk => ah au rfl (Bk.s8 hbz kk) rfl) (bu 16 rfl rfl rfl rfl rfl (cn 10 195 rfl rfl rfl rfl rfl (fun W' kk => ar 0 aD ag rfl rfl (by omega) (by omega)) (al 196 rfl rfl rfl rfl (fun W' kk => ah au rfl (Bk.s8 hbx kk) rfl) ?_))))))))
        refine cn 194 197 rfl rfl rfl rfl rfl (fun W' kk => cQ rfl rfl) (al 189 rfl rfl rfl rfl (fun W' kk => cf rfl) (al 199 rfl rfl rfl rfl (fun W' kk => ax 14 aG rfl dB (by decide) rfl rfl) (cC (fun w23 k19 => ?_))))
        obtain ⟨hbz, hbx⟩ := kF k19 hbz hbx
        replace hB := hB.trans k19.weak
        refine bX (a7 (ar (14 + 0) aD ag rfl rfl (by omega) (by omega)) rfl (ae (cl ag rfl rfl rfl hbz rfl) ?_))
        rintro _ w24 ⟨hb9, k20, z9⟩
        replace hbx := hbx.keep k20 (nm (Ne.symm ne_p_b2))
        replace hB := hB.trans k20
        clear z9
        replace hb9 : Bk w24 p _ [.int .i64 64, .int .i64 80, .int .i64 1, .int .i64 8, .int .i64 7, .int .i64 19, .int .i64 61, .int .i64 6, .int .i64 28, .int .i64 34, .int .i64 39, .int .i64 14, .int .i64 18, .int .i64 41, .int .u64 ((s.a + X.a).toNat : Int), .int .u64 ((s.b).toNat : Int), .int .u64 ((s.c).toNat : Int), .int .u64 ((s.d).toNat : Int), .int .u64 ((s.e).toNat : Int), .int .u64 ((s.f).toNat : Int), .int .u64 ((s.g).toNat : Int), .int .u64 ((s.h).toNat : Int)] := hb9
        refine a6 (a9 [(0, _), (10, _), (186, _)] ⟨rfl, rfl, rfl, trivial⟩ (bZ (aZ (a7 (bC (j := 1) (ay rfl rfl) (by decide)) rfl (ogm rfl rfl (a6 (cH (a5 ?_))))))))
        refine aZ (a7 (bd rfl rfl) rfl (a6 (a5 (bg rfl (by decide) (af (a5 (ab (a5 ?_))))))))
        refine aZ (ogm rfl rfl (oga rfl rfl (a6 (bW 12 [0, 1, 2, 3, 4, 5, 6, 7, 8, 9, 10, 11] [] [] [] mixed [(0, _), (16, _), (10, _), (186, _)] ⟨rfl, rfl, rfl, rfl, trivial⟩ (by decide +kernel) (by decide) (by decide) ?_ (fun x hx => by cases hx) rfl (fun w25 k21 => ?_)))))
        · intro q hq; cases hq
        obtain ⟨hbx, hb9⟩ := kF k21 hbx hb9
        replace hB := hB.trans k21.weak
        refine bu 0 rfl rfl rfl rfl rfl (bu 16 rfl rfl rfl rfl rfl (al 189 rfl rfl rfl rfl (fun W' kk => cf rfl) (al 191 rfl rfl rfl rfl (fun W' kk => ax 14 aG rfl dB (by decide) rfl rfl) (cn 190 192 rfl rfl rfl rfl rfl (fun W' kk => ar (14 + 1) aD ag rfl rfl (by omega) (by omega)) (al 193 rfl rfl rfl rfl (fun W' kk => ah au rfl (Bk.s8 hb9 kk) rfl) (bu 16 rfl rfl rfl rfl rfl (cn 10 195 rfl rfl rfl rfl rfl (fun W' kk => ar 1 aD ag rfl rfl (by omega) (by omega)) (al 196 rfl rfl rfl rfl (fun W' kk => ah au rfl (Bk.s8 hbx kk) rfl) ?_))))))))
        refine cn 194 197 rfl rfl rfl rfl rfl (fun W' kk => cQ rfl rfl) (al 189 rfl rfl rfl rfl (fun W' kk => cf rfl) (al 199 rfl rfl rfl rfl (fun W' kk => ax 14 aG rfl dB (by decide) rfl rfl) (cC (fun w26 k22 => ?_))))
        obtain ⟨hbx, hb9⟩ := kF k22 hbx hb9
        replace hB := hB.trans k22.weak
        refine bX (a7 (ar (14 + 1) aD ag rfl rfl (by omega) (by omega)) rfl (ae (cl ag rfl rfl rfl hb9 rfl) ?_))
        rintro _ w27 ⟨hb10, k23, z10⟩
        replace hbx := hbx.keep k23 (nm (Ne.symm ne_p_b2))
        replace hB := hB.trans k23
        clear z10
        replace hb10 : Bk w27 p _ [.int .i64 64, .int .i64 80, .int .i64 1, .int .i64 8, .int .i64 7, .int .i64 19, .int .i64 61, .int .i64 6, .int .i64 28, .int .i64 34, .int .i64 39, .int .i64 14, .int .i64 18, .int .i64 41, .int .u64 ((s.a + X.a).toNat : Int), .int .u64 ((s.b + X.b).toNat : Int), .int .u64 ((s.c).toNat : Int), .int .u64 ((s.d).toNat : Int), .int .u64 ((s.e).toNat : Int), .int .u64 ((s.f).toNat : Int), .int .u64 ((s.g).toNat : Int), .int .u64 ((s.h).toNat : Int)] := hb10
        refine a6 (a9 [(0, _), (10, _), (186, _)] ⟨rfl, rfl, rfl, trivial⟩ (bZ (aZ (a7 (bC (j := 2) (ay rfl rfl) (by decide)) rfl (ogm rfl rfl (a6 (cH (a5 ?_))))))))
        refine aZ (a7 (bd rfl rfl) rfl (a6 (a5 (bg rfl (by decide) (af (a5 (ab (a5 ?_))))))))
        refine aZ (ogm rfl rfl (oga rfl rfl (a6 (bW 12 [0, 1, 2, 3, 4, 5, 6, 7, 8, 9, 10, 11] [] [] [] mixed [(0, _), (16, _), (10, _), (186, _)] ⟨rfl, rfl, rfl, rfl, trivial⟩ (by decide +kernel) (by decide) (by decide) ?_ (fun x hx => by cases hx) rfl (fun w28 k24 => ?_)))))
        · intro q hq; cases hq
        obtain ⟨hbx, hb10⟩ := kF k24 hbx hb10
        replace hB := hB.trans k24.weak
        refine bu 0 rfl rfl rfl rfl rfl (bu 16 rfl rfl rfl rfl rfl (al 189 rfl rfl rfl rfl (fun W' kk => cf rfl) (al 191 rfl rfl rfl rfl (fun W' kk => ax 14 aG rfl dB (by decide) rfl rfl) (cn 190 192 rfl rfl rfl rfl rfl (fun W' kk => ar (14 + 2) aD ag rfl rfl (by omega) (by omega)) (al 193 rfl rfl rfl rfl (fun W' kk => ah au rfl (Bk.s8 hb10 kk) rfl) (bu 16 rfl rfl rfl rfl rfl (cn 10 195 rfl rfl rfl rfl rfl (fun W' kk => ar 2 aD ag rfl rfl (by omega) (by omega)) (al 196 rfl rfl rfl rfl (fun W' kk => ah au rfl (Bk.s8 hbx kk) rfl) ?_))))))))
        refine cn 194 197 rfl rfl rfl rfl rfl (fun W' kk => cQ rfl rfl) (al 189 rfl rfl rfl rfl (fun W' kk => cf rfl) (al 199 rfl rfl rfl rfl (fun W' kk => ax 14 aG rfl dB (by decide) rfl rfl) (cC (fun w29 k25 => ?_))))
        obtain ⟨hbx, hb10⟩ := kF k25 hbx hb10
        replace hB := hB.trans k25.weak
        refine bX (a7 (ar (14 + 2) aD ag rfl rfl (by omega) (by omega)) rfl (ae (cl ag rfl rfl rfl hb10 rfl) ?_))
        rintro _ w30 ⟨hb11, k26, z11⟩
        replace hbx := hbx.keep k26 (nm (Ne.symm ne_p_b2))
        replace hB := hB.trans k26
        clear z11
        replace hb11 : Bk w30 p _ [.int .i64 64, .int .i64 80, .int .i64 1, .int .i64 8, .int .i64 7, .int .i64 19, .int .i64 61, .int .i64 6, .int .i64 28, .int .i64 34, .int .i64 39, .int .i64 14, .int .i64 18, .int .i64 41, .int .u64 ((s.a + X.a).toNat : Int), .int .u64 ((s.b + X.b).toNat : Int), .int .u64 ((s.c + X.c).toNat : Int), .int .u64 ((s.d).toNat : Int), .int .u64 ((s.e).toNat : Int), .int .u64 ((s.f).toNat : Int), .int .u64 ((s.g).toNat : Int), .int .u64 ((s.h).toNat : Int)] := hb11
        refine a6 (a9 [(0, _), (10, _), (186, _)] ⟨rfl, rfl, rfl, trivial⟩ (bZ (aZ (a7 (bC (j := 3) (ay rfl rfl) (by decide)) rfl (ogm rfl rfl (a6 (cH (a5 ?_))))))))
        refine aZ (a7 (bd rfl rfl) rfl (a6 (a5 (bg rfl (by decide) (af (a5 (ab (a5 ?_))))))))
        refine aZ (ogm rfl rfl (oga rfl rfl (a6 (bW 12 [0, 1, 2, 3, 4, 5, 6, 7, 8, 9, 10, 11] [] [] [] mixed [(0, _), (16, _), (10, _), (186, _)] ⟨rfl, rfl, rfl, rfl, trivial⟩ (by decide +kernel) (by decide) (by decide) ?_ (fun x hx => by cases hx) rfl (fun w31 k27 => ?_)))))
        · intro q hq; cases hq
        obtain ⟨hbx, hb11⟩ := kF k27 hbx hb11
        replace hB := hB.trans k27.weak
        refine bu 0 rfl rfl rfl rfl rfl (bu 16 rfl rfl rfl rfl rfl (al 189 rfl rfl rfl rfl (fun W' kk => cf rfl) (al 191 rfl rfl rfl rfl (fun W' kk => ax 14 aG rfl dB (by decide) rfl rfl) (cn 190 192 rfl rfl rfl rfl rfl (fun W' kk => ar (14 + 3) aD ag rfl rfl (by omega) (by omega)) (al 193 rfl rfl rfl rfl (fun W' kk => ah au rfl (Bk.s8 hb11 kk) rfl) (bu 16 rfl rfl rfl rfl rfl (cn 10 195 rfl rfl rfl rfl rfl (fun W' kk => ar 3 aD ag rfl rfl (by omega) (by omega)) (al 196 rfl rfl rfl rfl (fun W' kk => ah au rfl (Bk.s8 hbx kk) rfl) ?_))))))))
        refine cn 194 197 rfl rfl rfl rfl rfl (fun W' kk => cQ rfl rfl) (al 189 rfl rfl rfl rfl (fun W' kk => cf rfl) (al 199 rfl rfl rfl rfl (fun W' kk => ax 14 aG rfl dB (by decide) rfl rfl) (cC (fun w32 k28 => ?_))))
        obtain ⟨hbx, hb11⟩ := kF k28 hbx hb11
        replace hB := hB.trans k28.weak
        refine bX (a7 (ar (14 + 3) aD ag rfl rfl (by omega) (by omega)) rfl (ae (cl ag rfl rfl rfl hb11 rfl) ?_))
        rintro _ w33 ⟨hb12, k29, z12⟩
        replace hbx := hbx.keep k29 (nm (Ne.symm ne_p_b2))
        replace hB := hB.trans k29
        clear z12
        replace hb12 : Bk w33 p _ [.int .i64 64, .int .i64 80, .int .i64 1, .int .i64 8, .int .i64 7, .int .i64 19, .int .i64 61, .int .i64 6, .int .i64 28, .int .i64 34, .int .i64 39, .int .i64 14, .int .i64 18, .int .i64 41, .int .u64 ((s.a + X.a).toNat : Int), .int .u64 ((s.b + X.b).toNat : Int), .int .u64 ((s.c + X.c).toNat : Int), .int .u64 ((s.d + X.d).toNat : Int), .int .u64 ((s.e).toNat : Int), .int .u64 ((s.f).toNat : Int), .int .u64 ((s.g).toNat : Int), .int .u64 ((s.h).toNat : Int)] := hb12
        refine a6 (a9 [(0, _), (10, _), (186, _)] ⟨rfl, rfl, rfl, trivial⟩ (bZ (aZ (a7 (bC (j := 4) (ay rfl rfl) (by decide)) rfl (ogm rfl rfl (a6 (cH (a5 ?_))))))))
        refine aZ (a7 (bd rfl rfl) rfl (a6 (a5 (bg rfl (by decide) (af (a5 (ab (a5 ?_))))))))
        refine aZ (ogm rfl rfl (oga rfl rfl (a6 (bW 12 [0, 1, 2, 3, 4, 5, 6, 7, 8, 9, 10, 11] [] [] [] mixed [(0, _), (16, _), (10, _), (186, _)] ⟨rfl, rfl, rfl, rfl, trivial⟩ (by decide +kernel) (by decide) (by decide) ?_ (fun x hx => by cases hx) rfl (fun w34 k30 => ?_)))))
        · intro q hq; cases hq
        obtain ⟨hbx, hb12⟩ := kF k30 hbx hb12
        replace hB := hB.trans k30.weak
        refine bu 0 rfl rfl rfl rfl rfl (bu 16 rfl rfl rfl rfl rfl (al 189 rfl rfl rfl rfl (fun W' kk => cf rfl) (al 191 rfl rfl rfl rfl (fun W' kk => ax 14 aG rfl dB (by decide) rfl rfl) (cn 190 192 rfl rfl rfl rfl rfl (fun W' kk => ar (14 + 4) aD ag rfl rfl (by omega) (by omega)) (al 193 rfl rfl rfl rfl (fun W' kk => ah au rfl (Bk.s8 hb12 kk) rfl) (bu 16 rfl rfl rfl rfl rfl (cn 10 195 rfl rfl rfl rfl rfl (fun W' kk => ar 4 aD ag rfl rfl (by omega) (by omega)) (al 196 rfl rfl rfl rfl (fun W' kk => ah au rfl (Bk.s8 hbx kk) rfl) ?_))))))))
        refine cn 194 197 rfl rfl rfl rfl rfl (fun W' kk => cQ rfl rfl) (al 189 rfl rfl rfl rfl (fun W' kk => cf rfl) (al 199 rfl rfl rfl rfl (fun W' kk => ax 14 aG rfl dB (by decide) rfl rfl) (cC (fun w35 k31 => ?_))))
        obtain ⟨hbx, hb12⟩ := kF k31 hbx hb12
        replace hB := hB.trans k31.weak
        refine bX (a7 (ar (14 + 4) aD ag rfl rfl (by omega) (by omega)) rfl (ae (cl ag rfl rfl rfl hb12 rfl) ?_))
        rintro _ w36 ⟨hb13, k32, z13⟩
        replace hbx := hbx.keep k32 (nm (Ne.symm ne_p_b2))
        replace hB := hB.trans k32
        clear z13
        replace hb13 : Bk w36 p _ [.int .i64 64, .int .i64 80, .int .i64 1, .int .i64 8, .int .i64 7, .int .i64 19, .int .i64 61, .int .i64 6, .int .i64 28, .int .i64 34, .int .i64 39, .int .i64 14, .int .i64 18, .int .i64 41, .int .u64 ((s.a + X.a).toNat : Int), .int .u64 ((s.b + X.b).toNat : Int), .int .u64 ((s.c + X.c).toNat : Int), .int .u64 ((s.d + X.d).toNat : Int), .int .u64 ((s.e + X.e).toNat : Int), .int .u64 ((s.f).toNat : Int), .int .u64 ((s.g).toNat : Int), .int .u64 ((s.h).toNat : Int)] := hb13
        refine a6 (a9 [(0, _), (10, _), (186, _)] ⟨rfl, rfl, rfl, trivial⟩ (bZ (aZ (a7 (bC (j := 5) (ay rfl rfl) (by decide)) rfl (ogm rfl rfl (a6 (cH (a5 ?_))))))))
        refine aZ (a7 (bd rfl rfl) rfl (a6 (a5 (bg rfl (by decide) (af (a5 (ab (a5 ?_))))))))
        refine aZ (ogm rfl rfl (oga rfl rfl (a6 (bW 12 [0, 1, 2, 3, 4, 5, 6, 7, 8, 9, 10, 11] [] [] [] mixed [(0, _), (16, _), (10, _), (186, _)] ⟨rfl, rfl, rfl, rfl, trivial⟩ (by decide +kernel) (by decide) (by decide) ?_ (fun x hx => by cases hx) rfl (fun w37 k33 => ?_)))))
        · intro q hq; cases hq
        obtain ⟨hbx, hb13⟩ := kF k33 hbx hb13
        replace hB := hB.trans k33.weak
        refine bu 0 rfl rfl rfl rfl rfl (bu 16 rfl rfl rfl rfl rfl (al 189 rfl rfl rfl rfl (fun W' kk => cf rfl) (al 191 rfl rfl rfl rfl (fun W' kk => ax 14 aG rfl dB (by decide) rfl rfl) (cn 190 192 rfl rfl rfl rfl rfl (fun W' kk => ar (14 + 5) aD ag rfl rfl (by omega) (by omega)) (al 193 rfl rfl rfl rfl (fun W' kk => ah au rfl (Bk.s8 hb13 kk) rfl) (bu 16 rfl rfl rfl rfl rfl (cn 10 195 rfl rfl rfl rfl rfl (fun W' kk => ar 5 aD ag rfl rfl (by omega) (by omega)) (al 196 rfl rfl rfl rfl (fun W' kk => ah au rfl (Bk.s8 hbx kk) rfl) ?_))))))))
        refine cn 194 197 rfl rfl rfl rfl rfl (fun W' kk => cQ rfl rfl) (al 189 rfl rfl rfl rfl (fun W' kk => cf rfl) (al 199 rfl rfl rfl rfl (fun W' kk => ax 14 aG rfl dB (by decide) rfl rfl) (cC (fun w38 k34 => ?_))))
        obtain ⟨hbx, hb13⟩ := kF k34 hbx hb13
        replace hB := hB.trans k34.weak
        refine bX (a7 (ar (14 + 5) aD ag rfl rfl (by omega) (by omega)) rfl (ae (cl ag rfl rfl rfl hb13 rfl) ?_))
        rintro _ w39 ⟨hb14, k35, z14⟩
        replace hbx := hbx.keep k35 (nm (Ne.symm ne_p_b2))
        replace hB := hB.trans k35
        clear z14
        replace hb14 : Bk w39 p _ [.int .i64 64, .int .i64 80, .int .i64 1, .int .i64 8, .int .i64 7, .int .i64 19, .int .i64 61, .int .i64 6, .int .i64 28, .int .i64 34, .int .i64 39, .int .i64 14, .int .i64 18, .int .i64 41, .int .u64 ((s.a + X.a).toNat : Int), .int .u64 ((s.b + X.b).toNat : Int), .int .u64 ((s.c + X.c).toNat : Int), .int .u64 ((s.d + X.d).toNat : Int), .int .u64 ((s.e + X.e).toNat : Int), .int .u64 ((s.f + X.f).toNat : Int), .int .u64 ((s.g).toNat : Int), .int .u64 ((s.h).toNat : Int)] := hb14
        refine a6 (a9 [(0, _), (10, _), (186, _)] ⟨rfl, rfl, rfl, trivial⟩ (bZ (aZ (a7 (bC (j := 6) (ay rfl rfl) (by decide)) rfl (ogm rfl rfl (a6 (cH (a5 ?_))))))))
        refine aZ (a7 (bd rfl rfl) rfl (a6 (a5 (bg rfl (by decide) (af (a5 (ab (a5 ?_))))))))
        refine aZ (ogm rfl rfl (oga rfl rfl (a6 (bW 12 [0, 1, 2, 3, 4, 5, 6, 7, 8, 9, 10, 11] [] [] [] mixed [(0, _), (16, _), (10, _), (186, _)] ⟨rfl, rfl, rfl, rfl, trivial⟩ (by decide +kernel) (by decide) (by decide) ?_ (fun x hx => by cases hx) rfl (fun w40 k36 => ?_)))))
        · intro q hq; cases hq
        obtain ⟨hbx, hb14⟩ := kF k36 hbx hb14
        replace hB := hB.trans k36.weak
        refine bu 0 rfl rfl rfl rfl rfl (bu 16 rfl rfl rfl rfl rfl (al 189 rfl rfl rfl rfl (fun W' kk => cf rfl) (al 191 rfl rfl rfl rfl (fun W' kk => ax 14 aG rfl dB (by decide) rfl rfl) (cn 190 192 rfl rfl rfl rfl rfl (fun W' kk => ar (14 + 6) aD ag rfl rfl (by omega) (by omega)) (al 193 rfl rfl rfl rfl (fun W' kk => ah au rfl (Bk.s8 hb14 kk) rfl) (bu 16 rfl rfl rfl rfl rfl (cn 10 195 rfl rfl rfl rfl rfl (fun W' kk => ar 6 aD ag rfl rfl (by omega) (by omega)) (al 196 rfl rfl rfl rfl (fun W' kk => ah au rfl (Bk.s8 hbx kk) rfl) ?_))))))))
        refine cn 194 197 rfl rfl rfl rfl rfl (fun W' kk => cQ rfl rfl) (al 189 rfl rfl rfl rfl (fun W' kk => cf rfl) (al 199 rfl rfl rfl rfl (fun W' kk => ax 14 aG rfl dB (by decide) rfl rfl) (cC (fun w41 k37 => ?_))))
        obtain ⟨hbx, hb14⟩ := kF k37 hbx hb14
        replace hB := hB.trans k37.weak
        refine bX (a7 (ar (14 + 6) aD ag rfl rfl (by omega) (by omega)) rfl (ae (cl ag rfl rfl rfl hb14 rfl) ?_))
        rintro _ w42 ⟨hb15, k38, z15⟩
        replace hbx := hbx.keep k38 (nm (Ne.symm ne_p_b2))
        replace hB := hB.trans k38
        clear z15
        replace hb15 : Bk w42 p _ [.int .i64 64, .int .i64 80, .int .i64 1, .int .i64 8, .int .i64 7, .int .i64 19, .int .i64 61, .int .i64 6, .int .i64 28, .int .i64 34, .int .i64 39, .int .i64 14, .int .i64 18, .int .i64 41, .int .u64 ((s.a + X.a).toNat : Int), .int .u64 ((s.b + X.b).toNat : Int), .int .u64 ((s.c + X.c).toNat : Int), .int .u64 ((s.d + X.d).toNat : Int), .int .u64 ((s.e + X.e).toNat : Int), .int .u64 ((s.f + X.f).toNat : Int), .int .u64 ((s.g + X.g).toNat : Int), .int .u64 ((s.h).toNat : Int)] := hb15
        refine a6 (a9 [(0, _), (10, _), (186, _)] ⟨rfl, rfl, rfl, trivial⟩ (bZ (aZ (a7 (bC (j := 7) (ay rfl rfl) (by decide)) rfl (ogm rfl rfl (a6 (cH (a5 ?_))))))))
        refine aZ (a7 (bd rfl rfl) rfl (a6 (a5 (bg rfl (by decide) (af (a5 (ab (a5 ?_))))))))
        refine aZ (ogm rfl rfl (oga rfl rfl (a6 (bW 12 [0, 1, 2, 3, 4, 5, 6, 7, 8, 9, 10, 11] [] [] [] mixed [(0, _), (16, _), (10, _), (186, _)] ⟨rfl, rfl, rfl, rfl, trivial⟩ (by decide +kernel) (by decide) (by decide) ?_ (fun x hx => by cases hx) rfl (fun w43 k39 => ?_)))))
        · intro q hq; cases hq
        obtain ⟨hbx, hb15⟩ := kF k39 hbx hb15
        replace hB := hB.trans k39.weak
        refine bu 0 rfl rfl rfl rfl rfl (bu 16 rfl rfl rfl rfl rfl (al 189 rfl rfl rfl rfl (fun W' kk => cf rfl) (al 191 rfl rfl rfl rfl (fun W' kk => ax 14 aG rfl dB (by decide) rfl rfl) (cn 190 192 rfl rfl rfl rfl rfl (fun W' kk => ar (14 + 7) aD ag rfl rfl (by omega) (by omega)) (al 193 rfl rfl rfl rfl (fun W' kk => ah au rfl (Bk.s8 hb15 kk) rfl) (bu 16 rfl rfl rfl rfl rfl (cn 10 195 rfl rfl rfl rfl rfl (fun W' kk => ar 7 aD ag rfl rfl (by omega) (by omega)) (al 196 rfl rfl rfl rfl (fun W' kk => ah au rfl (Bk.s8 hbx kk) rfl) ?_))))))))
        refine cn 194 197 rfl rfl rfl rfl rfl (fun W' kk => cQ rfl rfl) (al 189 rfl rfl rfl rfl (fun W' kk => cf rfl) (al 199 rfl rfl rfl rfl (fun W' kk => ax 14 aG rfl dB (by decide) rfl rfl) (cC (fun w44 k40 => ?_))))
        replace hb15 := hb15.s8 k40
        replace hB := hB.trans k40.weak
        refine bX (a7 (ar (14 + 7) aD ag rfl rfl (by omega) (by omega)) rfl (ae (cl ag rfl rfl rfl hb15 rfl) ?_))
        rintro _ w45 ⟨hb16, k41, z16⟩
        replace hB := hB.trans k41
        clear z16
        replace hb16 : Bk w45 p _ [.int .i64 64, .int .i64 80, .int .i64 1, .int .i64 8, .int .i64 7, .int .i64 19, .int .i64 61, .int .i64 6, .int .i64 28, .int .i64 34, .int .i64 39, .int .i64 14, .int .i64 18, .int .i64 41, .int .u64 ((s.a + X.a).toNat : Int), .int .u64 ((s.b + X.b).toNat : Int), .int .u64 ((s.c + X.c).toNat : Int), .int .u64 ((s.d + X.d).toNat : Int), .int .u64 ((s.e + X.e).toNat : Int), .int .u64 ((s.f + X.f).toNat : Int), .int .u64 ((s.g + X.g).toNat : Int), .int .u64 ((s.h + X.h).toNat : Int)] := hb16
        refine a6 (a9 [(0, _), (10, _), (186, _)] ⟨rfl, rfl, rfl, trivial⟩ (bZ (aZ (a7 (bC (j := 8) (ay rfl rfl) (by decide)) rfl (ogm rfl rfl (a6 (cH (a5 ?_))))))))
        refine aZ (a7 (bd rfl rfl) rfl (a6 (a5 (ci rfl (by decide) (bF rfl (tw_end0 hfin Tryz.results102 ?_))))))
        obtain rfl : i = 80 := by omega
        subst hX
        exact ⟨rfl, hb16, hB⟩
theorem rq (X : S8 64) (i : Nat) : (((eT X).take i).flatMap fun x => be (x.toNat : Int) 8).length ≤ 64 := by
  have h : ∀ l : List (BitVec 64), (l.flatMap fun x => be (x.toNat : Int) 8).length = 8 * l.length := by
    intro l
    induction l with
    | nil => rfl
    | cons x r ih => rw [List.flatMap_cons, List.length_append, ih, dI, List.length_cons]; omega
  rw [h, List.length_take]; have : (eT X).length = 8 := rfl; omega
theorem lT {v : Value} {l h s : Nat} {x : Nat} (hx : x ∈ vblk (cut v l h s)) : x ∈ vblk v := by
 cases v with
 | slice a n c =>
   cases a with
   | none => simp [cut, vblk] at hx
   | some a =>
     simp only [cut] at hx
     split at hx
     · exact hx
     · simp only [Option.map_some, vblk, List.mem_singleton] at hx ⊢
       rw [hx]; unfold Addr.add; split <;> rfl
 | _ => exact hx
theorem sum_any (v : Value) (xs : List UInt8) (w : World) (hT : Tabs w) (hv : RdB w v xs) (hx : xs.length ≤ 140737488354000) : Rets Tryz.prog 81 [.agg [.int .i64 64, .int .i64 80, .int .i64 1, .int .i64 8, .int .i64 7, .int .i64 19, .int .i64 61, .int .i64 6, .int .i64 28, .int .i64 34, .int .i64 39, .int .i64 14, .int .i64 18, .int .i64 41].toArray, v] w (fun r w' => OwnB w' w.heap.size r (Sha.sum cT Kl Hl xs) ∧ Keep [] w w') := by
 have hB : Keep [] w w := Keep.refl _ _
 have hz := ij (n := 64) (len := xs.length) (by decide) (by decide)
 refine ac Tryz.func81 rfl (by decide) Tryz.ntmps81 rfl (fun fin _ hfin => a5 (aZ (ad (bc (cs := [.int .i64 64, .int .i64 80, .int .i64 1, .int .i64 8, .int .i64 7, .int .i64 19, .int .i64 61, .int .i64 6, .int .i64 28, .int .i64 34, .int .i64 39, .int .i64 14, .int .i64 18, .int .i64 41]) rfl rfl) rfl ?_)))
 rintro _ w1 ⟨b1, rfl, eb1, hb1, k1, z1⟩
 replace hB := hB.trans k1
 clear eb1 z1
 refine oga rfl rfl (a6 (a5 (aZ (a7 (aa (cs' := [_, _, _, _, _, _, _, _, _, _, _, _, _, _]) s3 eR rfl hb1 rfl rfl) rfl (ad (a8 (vs := [_]) rfl (kr _ (hT.s8 hB))) rfl ?_)))))
 rintro _ w2 ⟨rfl, k2⟩
 obtain ⟨hB, hb1⟩ := bN k2 hB hb1
 refine ad (aj gm) rfl ?_
 rintro _ w3 ⟨b2, rfl, eb2, hb2, k3, z2⟩
 have ge_b2 : w.heap.size ≤ b2 := by have := hB.size; omega
 have ne_b1_b2 : b1 ≠ b2 := by have := hb1.lt; omega
 obtain ⟨hB, hb1⟩ := bN k3 hB hb1
 clear eb2 z2
 refine ae (bB gm rfl rfl rfl (by simp only [List.forall_mem_cons]; refine ⟨rfl, rfl, rfl, rfl, rfl, rfl, rfl, rfl, rfl, rfl, rfl, rfl, rfl, rfl, rfl, rfl, rfl, rfl, rfl, rfl, rfl, rfl, fun v hv => by cases hv⟩) hb2 rfl) ?_
 rintro _ w4 ⟨hb3, k4, z3⟩
 replace hb1 := hb1.keep k4 (nm ne_b1_b2)
 replace hB := hB.new k4 (nw ge_b2)
 clear z3
 replace hb3 : Bk w4 b2 _ [.int .i64 64, .int .i64 80, .int .i64 1, .int .i64 8, .int .i64 7, .int .i64 19, .int .i64 61, .int .i64 6, .int .i64 28, .int .i64 34, .int .i64 39, .int .i64 14, .int .i64 18, .int .i64 41, .int .u64 ((cst 64 Hl 0).toNat : Int), .int .u64 ((cst 64 Hl 1).toNat : Int), .int .u64 ((cst 64 Hl 2).toNat : Int), .int .u64 ((cst 64 Hl 3).toNat : Int), .int .u64 ((cst 64 Hl 4).toNat : Int), .int .u64 ((cst 64 Hl 5).toNat : Int), .int .u64 ((cst 64 Hl 6).toNat : Int), .int .u64 ((cst 64 Hl 7).toNat : Int)] := hb3
 refine a6 (a5 (aZ (a7 (ax 0 aL rfl cU (by decide) rfl rfl) rfl (a7 (ah dc rfl hb1 rfl) rfl (a7 (bC (j := 128) (dZ rfl rfl) (by decide)) rfl (oga rfl rfl (a6 (a5 (aZ (ogm rfl rfl (a7 (cB aA rfl (by first | assumption | exact Own.rd ‹_› | exact Rd.s8 ‹_› hB | exact Own.rd (Own.s8 ‹_› hB))) rfl (a7 (cN (v' := .int .u64 (xs.length : Int)) (eb (by rw [aJ]; rfl) aN rfl) (by rw [fX, Int.emod_eq_of_lt (by omega) (by omega)])) rfl (a7 (cN (v' := .int .u64 (8 * (xs.length : Int))) (dZ rfl rfl) (by rw [fX, Int.emod_eq_of_lt (by omega) (by omega), Int.mul_comm])) rfl (oga rfl rfl (a6 (a9 [(1, _), (2, _), (5, _), (6, _), (7, _)] ⟨rfl, rfl, rfl, rfl, rfl, trivial⟩ (a5 (aZ (ogm rfl rfl (ogm rfl rfl (a7 (cB aA rfl (by first | assumption | exact Own.rd ‹_› | exact Rd.s8 ‹_› hB | exact Own.rd (Own.s8 ‹_› hB))) rfl (ogm rfl rfl (a7 (cB aA rfl (by first | assumption | exact Own.rd ‹_› | exact Rd.s8 ‹_› hB | exact Own.rd (Own.s8 ‹_› hB))) rfl ?_)))))))))))))))))))))))
 obtain ⟨A, cp, hve, _⟩ := id hv
 obtain ⟨u, hu⟩ : ∃ u, u = Value.slice (if ((xs.length : Int)).toNat = 0 then A else A.map (·.add (0 * 1))) ((xs.length : Int)).toNat ((xs.length : Int)).toNat := ⟨_, rfl⟩
 have hru : RdB w4 u xs := by rw [hu]; exact rd_full (c := cp) (by rw [← hve]; exact hv.s8 hB)
 have hcu : vcap u = xs.length := by rw [hu]; rfl
 have hcp : xs.length ≤ cp := by obtain ⟨A', c', hv', h2, _⟩ := hv; rw [hve] at hv'; cases hv'; exact h2
 refine a7 (cN (v' := u) (g_sl3 aA cg (congrArg some hve) rfl rfl ⟨by omega, by omega, by omega⟩) hu.symm) rfl (ad (dv (m := 1) (xs := [.const (.int .u8 (128))]) (vs := [_]) aA cg (by decide) rfl rfl rfl (by first | (simp; done) | (intro v hv; rw [List.mem_singleton] at hv; subst hv; rfl)) (by decide)) rfl ?_)
 rintro v1 w5 ⟨o1, nn1, lb1, k5, z4⟩
 obtain ⟨hB, hb1, hb3⟩ := ca k5 hB hb1 hb3
 replace o1 : Own w5 _ _ 1 v1 1 (bv [128]) := o1
 refine ad (d_appF (lo := w.heap.size) aA cg rfl (by first | exact hru | exact hru.s8 ‹_›) hcu rfl (show RdB _ _ [128] from o1.rd) (by decide) (by simp only [List.length_singleton]; omega) (by have := hB.size; omega)) rfl ?_
 rintro q w6 ⟨oq, k6, hlb⟩
 replace oq : OwnB w6 w.heap.size q (xs ++ 128 :: List.replicate 0 0) := by unfold OwnB; rw [List.length_append]; exact oq
 have sbq_b1 := fun x hx => (show x ≠ b1 from by have h1 := hlb x hx; have h2 := hb1.lt; omega)
 have sbq_b2 := fun x hx => (show x ≠ b2 from by have h1 := hlb x hx; have h2 := hb3.lt; omega)
 obtain ⟨hB, hb1, hb3⟩ := ca k6 hB hb1 hb3
 refine oga rfl rfl (a6 (a5 (ab (bK (Γ := Nat × Value) (fun ⟨j, o⟩ => [(1, o), (2, .pointer (some ⟨b1, 0, none⟩)), (5, .pointer (some ⟨b2, 0, none⟩)), (6, .int .i64 128), (7, .int .u64 (8 * (xs.length : Int)))]) (fun ⟨j, o⟩ W => j ≤ zs 64 xs.length ∧ OwnB W w.heap.size o (xs ++ 128 :: List.replicate j 0) ∧ (∀ x, x ∈ vblk o → x ≠ b1 ∧ x ≠ b2) ∧ Bk W b1 113 [.int .i64 64, .int .i64 80, .int .i64 1, .int .i64 8, .int .i64 7, .int .i64 19, .int .i64 61, .int .i64 6, .int .i64 28, .int .i64 34, .int .i64 39, .int .i64 14, .int .i64 18, .int .i64 41] ∧ Bk W b2 133 [.int .i64 64, .int .i64 80, .int .i64 1, .int .i64 8, .int .i64 7, .int .i64 19, .int .i64 61, .int .i64 6, .int .i64 28, .int .i64 34, .int .i64 39, .int .i64 14, .int .i64 18, .int .i64 41, .int .u64 ((cst 64 Hl 0).toNat : Int), .int .u64 ((cst 64 Hl 1).toNat : Int), .int .u64 ((cst 64 Hl 2).toNat : Int), .int .u64 ((cst 64 Hl 3).toNat : Int), .int .u64 ((cst 64 Hl 4).toNat : Int), .int .u64 ((cst 64 Hl 5).toNat : Int), .int .u64 ((cst 64 Hl 6).toNat : Int), .int .u64 ((cst 64 Hl 7).toNat : Int)] ∧ Keep [] w W) (fun ⟨j, o⟩ => zs 64 xs.length - j) ⟨0, q⟩ ⟨rfl, rfl, rfl, rfl, rfl, trivial⟩ (⟨by omega, oq, fun x hx => ⟨sbq_b1 x hx, sbq_b2 x hx⟩, hb1, hb3, hB⟩) ?_))))
 rintro ⟨j, o⟩ w7 ⟨hj0, ow, hno, hbp, hbs, hB⟩
 refine a9 [(1, o), (2, .pointer (some ⟨b1, 0, none⟩)), (5, .pointer (some ⟨b2, 0, none⟩)), (6, .int .i64 128), (7, .int .u64 (8 * (xs.length : Int)))] ⟨rfl, rfl, rfl, rfl, rfl, trivial⟩ ?_
 have hlo : (xs ++ 128 :: List.replicate j 0).length = xs.length + 1 + j := by rw [List.length_append, List.length_cons, List.length_replicate]; omega
 have sbo_b1 := fun x hx => (hno x hx).1
 have sbo_b2 := fun x hx => (hno x hx).2
 refine a5 (a5 (aZ (ogm rfl rfl (a7 (cN (v' := .int .i64 ((xs.length + 1 + j : Nat) : Int)) (cB aA rfl ow.rd) (by rw [hlo])) rfl (ogm rfl rfl (a7 (fQ rfl rfl (by omega)) rfl (ogm rfl rfl (ogm rfl rfl (a7 (bC (j := 16) (es rfl rfl (by decide)) (by decide)) rfl (a7 (bC (j := 112) (cY rfl rfl) (by decide)) rfl (a7 (dt rfl rfl) rfl (a6 (bT rfl (fun hc1 => ?_) (fun hc1 => ?_))))))))))))))
 ·
  refine af (ab (aZ (ogm rfl rfl (ad (dv (m := 1) (xs := [.const (.int .u8 (0))]) (vs := [_]) aA cg (by decide) rfl rfl rfl (by first | (simp; done) | (intro v hv; rw [List.mem_singleton] at hv; subst hv; rfl)) (by decide)) rfl ?_))))
  rintro v2 w8 ⟨o2, nn2, lb2, k7, z5⟩
  replace ow := ow.s8 k7
  obtain ⟨hB, hbp, hbs⟩ := ca k7 hB hbp hbs
  replace o2 : Own w8 _ _ 1 v2 1 (bv [0]) := o2
  have lt2_o3 := hbp.lt
  have lt5_o3 := hbs.lt
  refine ad (dn aA cg rfl ow rfl (show RdB _ _ [0] from o2.rd) (by rw [hlo]; simp only [List.length_singleton]; omega) (by have := hB.size; omega)) rfl ?_
  rintro v3 w9 ⟨o3, k8, lb3, _⟩
  replace hB := hB.new k8 (fun x hx => .inl (ow.blk x hx).1)
  replace hbp := hbp.keep k8 (fun hm => sbo_b1 _ hm rfl)
  have sb2_o3 := fun x hx => (lb3 x hx).elim (sbo_b1 x) (fun h => (show x ≠ b1 from by omega))
  replace hbs := hbs.keep k8 (fun hm => sbo_b2 _ hm rfl)
  have sb5_o3 := fun x hx => (lb3 x hx).elim (sbo_b2 x) (fun h => (show x ≠ b2 from by omega))
  refine oga rfl rfl (a6 (a9 [(1, _), (2, _), (5, _), (6, _), (7, _)] ⟨rfl, rfl, rfl, rfl, rfl, trivial⟩ (bZ (bM (Γ := Nat × Value) ⟨j + 1, v3⟩ ⟨rfl, rfl, rfl, rfl, rfl, trivial⟩ (by (try dsimp only); omega) (⟨by omega, by unfold OwnB; rw [zstep, List.length_append]; exact o3, (fun x hx => ⟨sb2_o3 x hx, sb5_o3 x hx⟩), hbp, hbs, hB⟩)))))
 ·
  refine bF rfl (a5 (aZ (ogm rfl rfl (ogm rfl rfl (a7 (bC (j := 16) (es rfl rfl (by decide)) (by decide)) rfl (a7 (bC (j := 8) (cY rfl rfl) (by decide)) rfl ?_))))))
  obtain rfl : j = zs 64 xs.length := by omega
  have lt2_o4 := hbp.lt
  have lt5_o4 := hbs.lt
  refine ad (d_appZo aA aJ cg rfl ow (by simp) rfl (by decide) (by rw [hlo]; omega) (by have := hB.size; omega)) rfl ?_
  rintro v4 w10 ⟨o4, k9, lb4⟩
  replace hB := hB.new k9 (fun x hx => .inl (ow.blk x hx).1)
  replace hbp := hbp.keep k9 (fun hm => sbo_b1 _ hm rfl)
  have sb2_o4 := fun x hx => (lb4 x hx).elim (sbo_b1 x) (fun h => (show x ≠ b1 from by omega))
  replace hbs := hbs.keep k9 (fun hm => sbo_b2 _ hm rfl)
  have sb5_o4 := fun x hx => (lb4 x hx).elim (sbo_b2 x) (fun h => (show x ≠ b2 from by omega))
  replace o4 : OwnB w10 w.heap.size v4 ((xs ++ 128 :: List.replicate (zs 64 xs.length) 0) ++ List.replicate 8 0) := by unfold OwnB; rw [List.length_append]; exact o4
  have hlz : ((xs ++ 128 :: List.replicate (zs 64 xs.length) 0) ++ List.replicate 8 0).length = xs.length + 9 + zs 64 xs.length := by rw [List.length_append, hlo, List.length_replicate]; omega
  refine oga rfl rfl (a6 (a9 [(1, _), (2, _), (5, _), (6, _), (7, _)] ⟨rfl, rfl, rfl, rfl, rfl, trivial⟩ (a5 (a5 (aZ (oga rfl rfl (a6 (ab ?_))))))))
  obtain ⟨pz, hpz⟩ : ∃ pz, pz = (xs ++ 128 :: List.replicate (zs 64 xs.length) 0) ++ List.replicate 8 0 := ⟨_, rfl⟩
  rw [← hpz] at o4 hlz
  refine bK (Γ := Nat × Value) (fun ⟨j, u⟩ => [(1, u), (2, .pointer (some ⟨b1, 0, none⟩)), (5, .pointer (some ⟨b2, 0, none⟩)), (6, .int .i64 128), (7, .int .u64 (8 * (xs.length : Int))), (8, .int .i64 (56 - 8 * (j : Int)))]) (fun ⟨j, u⟩ W => j ≤ 8 ∧ OwnB W w.heap.size u (pz ++ (be (8 * (xs.length : Int)) 8).take j) ∧ (∀ x, x ∈ vblk u → x ≠ b1 ∧ x ≠ b2) ∧ Bk W b1 113 [.int .i64 64, .int .i64 80, .int .i64 1, .int .i64 8, .int .i64 7, .int .i64 19, .int .i64 61, .int .i64 6, .int .i64 28, .int .i64 34, .int .i64 39, .int .i64 14, .int .i64 18, .int .i64 41] ∧ Bk W b2 133 [.int .i64 64, .int .i64 80, .int .i64 1, .int .i64 8, .int .i64 7, .int .i64 19, .int .i64 61, .int .i64 6, .int .i64 28, .int .i64 34, .int .i64 39, .int .i64 14, .int .i64 18, .int .i64 41, .int .u64 ((cst 64 Hl 0).toNat : Int), .int .u64 ((cst 64 Hl 1).toNat : Int), .int .u64 ((cst 64 Hl 2).toNat : Int), .int .u64 ((cst 64 Hl 3).toNat : Int), .int .u64 ((cst 64 Hl 4).toNat : Int), .int .u64 ((cst 64 Hl 5).toNat : Int), .int .u64 ((cst 64 Hl 6).toNat : Int), .int .u64 ((cst 64 Hl 7).toNat : Int)] ∧ Keep [] w W) (fun ⟨j, u⟩ => 8 - j) ⟨0, _⟩ ⟨rfl, rfl, rfl, rfl, rfl, rfl, trivial⟩ (⟨by omega, by rw [List.take_zero, List.append_nil]; exact o4, fun x hx => ⟨sb2_o4 x hx, sb5_o4 x hx⟩, hbp, hbs, hB⟩) ?_
  rintro ⟨j, u⟩ w11 ⟨hj0, ow, hno, hbp, hbs, hB⟩
  refine a9 [(1, u), (2, .pointer (some ⟨b1, 0, none⟩)), (5, .pointer (some ⟨b2, 0, none⟩)), (6, .int .i64 128), (7, .int .u64 (8 * (xs.length : Int))), (8, .int .i64 (56 - 8 * (j : Int)))] ⟨rfl, rfl, rfl, rfl, rfl, rfl, trivial⟩ ?_
  have hlj : (pz ++ (be (8 * (xs.length : Int)) 8).take j).length = xs.length + 9 + zs 64 xs.length + j := by rw [List.length_append, hlz, List.length_take, dI]; omega
  have sbo_b1 := fun x hx => (hno x hx).1
  have sbo_b2 := fun x hx => (hno x hx).2
  refine a5 (a5 (aZ (ogm rfl rfl (a7 (ii rfl rfl) rfl (a6 (bT rfl (fun hc2 => ?_) (fun hc2 => ?_)))))))
  ·
   refine af (a5 (ab (aZ (ogm rfl rfl (ogm rfl rfl (ogm rfl rfl (a7 (fC rfl rfl ⟨by omega, (show _ ≤ ((64 : Nat) : Int) from by omega)⟩) rfl (a7 (eb (by rw [aN]; rfl) aH rfl) rfl (ad (dv (m := 1) (xs := [.tmp 55]) (vs := [_]) aA cg (by decide) rfl rfl rfl (by first | (simp; done) | (intro v hv; rw [List.mem_singleton] at hv; subst hv; rfl)) (by decide)) rfl ?_)))))))))
   rintro v5 w12 ⟨o5, nn3, lb5, k10, z6⟩
   replace ow := ow.s8 k10
   obtain ⟨hB, hbp, hbs⟩ := ca k10 hB hbp hbs
   have hby : IntKind.u8.wrap ((8 * (xs.length : Int)) / 2 ^ (56 - 8 * (j : Int)).toNat) = ((byteAt (8 * (xs.length : Int)) (7 - j)).toNat : Int) := by rw [el, IntKind.wrap_u8]; congr 3; omega
   replace o5 := gx o5 hby
   have e1 : (be (8 * (xs.length : Int)) 8).take (j + 1) = (be (8 * (xs.length : Int)) 8).take j ++ [byteAt (8 * (xs.length : Int)) (7 - j)] := eA (by simp only [be, List.getElem?_map]; rw [List.getElem?_range (by omega)]; rfl)
   have lt2_o6 := hbp.lt
   have lt5_o6 := hbs.lt
   refine ad (dn aA cg rfl ow rfl (show RdB _ _ [byteAt (8 * (xs.length : Int)) (7 - j)] from o5.rd) (by rw [hlj]; simp only [List.length_singleton]; omega) (by have := hB.size; omega)) rfl ?_
   rintro v6 w13 ⟨o6, k11, lb6, _⟩
   replace hB := hB.new k11 (fun x hx => .inl (ow.blk x hx).1)
   replace hbp := hbp.keep k11 (fun hm => sbo_b1 _ hm rfl)
   have sb2_o6 := fun x hx => (lb6 x hx).elim (sbo_b1 x) (fun h => (show x ≠ b1 from by omega))
   replace hbs := hbs.keep k11 (fun hm => sbo_b2 _ hm rfl)
   have sb5_o6 := fun x hx => (lb6 x hx).elim (sbo_b2 x) (fun h => (show x ≠ b2 from by omega))
   replace o6 : OwnB w13 w.heap.size v6 (pz ++ (be (8 * (xs.length : Int)) 8).take (j + 1)) := by rw [e1, ← List.append_assoc]; unfold OwnB; rw [List.length_append]; exact o6
   refine oga rfl rfl (a6 (bZ (aZ (ogm rfl rfl (a7 (cN (v' := .int .i64 (56 - 8 * ((j + 1 : Nat) : Int))) (cj rfl rfl (by omega)) (by congr 1; omega)) rfl (oga rfl rfl (a6 (a9 [(1, _), (2, _), (5, _), (6, _), (7, _), (8, _)] ⟨rfl, rfl, rfl, rfl, rfl, rfl, trivial⟩ (bM (Γ := Nat × Value) ⟨j + 1, v6⟩ ⟨rfl, rfl, rfl, rfl, rfl, rfl, trivial⟩ (by (try dsimp only); omega) (⟨by omega, o6, (fun x hx => ⟨sb2_o6 x hx, sb5_o6 x hx⟩), hbp, hbs, hB⟩))))))))))
  ·
   refine bF rfl (a5 (ab ?_))
   obtain rfl : j = 8 := by omega
   have hpad : (pad 64 xs) = pz ++ (be (8 * (xs.length : Int)) 8).take 8 := by rw [hpz, rH, List.take_of_length_le (by rw [dI]; exact Nat.le_refl _)]
   have hru0 := ow.rd
   rw [← hpad] at hru0
   have hPM := jO xs; have hPL := rG xs
   obtain ⟨M, hM⟩ : ∃ M, M = ((pad 64 xs).length / (2 * 64)) := ⟨_, rfl⟩
   rw [← hM] at hPM
   refine bK (Γ := Nat × S8 64 × Value) (fun ⟨m, X, u⟩ => [(1, u), (2, .pointer (some ⟨b1, 0, none⟩)), (5, .pointer (some ⟨b2, 0, none⟩)), (6, .int .i64 128)]) (fun ⟨m, X, u⟩ W => m ≤ M ∧ blks cT Kl (M - m) ((pad 64 xs).drop (128 * m)) X = blks cT Kl M (pad 64 xs) (st8 64 Hl) ∧ RdB W u ((pad 64 xs).drop (128 * m)) ∧ (∀ x, x ∈ vblk u → x ≠ b2) ∧ Bk W b1 113 [.int .i64 64, .int .i64 80, .int .i64 1, .int .i64 8, .int .i64 7, .int .i64 19, .int .i64 61, .int .i64 6, .int .i64 28, .int .i64 34, .int .i64 39, .int .i64 14, .int .i64 18, .int .i64 41] ∧ Bk W b2 133 [.int .i64 64, .int .i64 80, .int .i64 1, .int .i64 8, .int .i64 7, .int .i64 19, .int .i64 61, .int .i64 6, .int .i64 28, .int .i64 34, .int .i64 39, .int .i64 14, .int .i64 18, .int .i64 41, .int .u64 ((X.a).toNat : Int), .int .u64 ((X.b).toNat : Int), .int .u64 ((X.c).toNat : Int), .int .u64 ((X.d).toNat : Int), .int .u64 ((X.e).toNat : Int), .int .u64 ((X.f).toNat : Int), .int .u64 ((X.g).toNat : Int), .int .u64 ((X.h).toNat : Int)] ∧ Keep [] w W) (fun ⟨m, X, u⟩ => M - m) ⟨0, st8 64 Hl, _⟩ ⟨rfl, rfl, rfl, rfl, trivial⟩ (⟨by omega, rfl, hru0, fun x hx => sbo_b2 x hx, hbp, hbs, hB⟩) ?_
   rintro ⟨m, X, u⟩ w14 ⟨hm0, heq, hru, hnu, hbp, hbs, hB⟩
   refine a9 [(1, u), (2, .pointer (some ⟨b1, 0, none⟩)), (5, .pointer (some ⟨b2, 0, none⟩)), (6, .int .i64 128)] ⟨rfl, rfl, rfl, rfl, trivial⟩ ?_
   have hcu := hru.vcap
   have hlu : ((pad 64 xs).drop (128 * m)).length = (pad 64 xs).length - 128 * m := List.length_drop
   refine a5 (a5 (aZ (ogm rfl rfl (a7 (cN (v' := .int .i64 (((pad 64 xs).length - 128 * m : Nat) : Int)) (cB aA rfl hru) (by rw [hlu])) rfl (a7 (mV rfl rfl) rfl (a6 (bT rfl (fun hc3 => ?_) (fun hc3 => ?_))))))))
   ·
    refine af (ab (a5 (aZ (ogm rfl rfl (ogm rfl rfl ?_)))))
    have hge : 128 ≤ (pad 64 xs).length - 128 * m := by omega
    refine a7 (cN (v' := cut u 0 128 1) (fo aA cg rfl hru (.inl ⟨rfl, rfl⟩) (.inr ⟨_, _, rfl, rfl⟩) ⟨by omega, by omega, by omega⟩) rfl) rfl ?_
    have hck : RdB w14 (cut u 0 128 1) (((pad 64 xs).drop (128 * m)).take 128) := by have := hru.cutB (l := 0) (hi := 128) (by omega) (by rw [hlu]; omega); simpa using this
    have hcl : (((pad 64 xs).drop (128 * m)).take 128).length = 128 := by rw [List.length_take, hlu]; omega
    refine ad (a8 (vs := [_, _]) rfl (qI b2 _ (((pad 64 xs).drop (128 * m)).take 128) X _ (hT.s8 hB) hck hcl (by have := hT.two; omega) (fun x hx hm => hnu x (ot hx) (List.mem_singleton.1 hm)) hbs)) rfl ?_
    rintro _ w15 ⟨rfl, hb4, k12⟩
    have hru2 := hru.keep k12 (fun x hx hm => hnu x hx (List.mem_singleton.1 hm))
    replace hbp := hbp.keep k12 (nm ne_b1_b2)
    replace hB := hB.new k12 (nw ge_b2)
    refine a6 (aZ (ogm rfl rfl (ogm rfl rfl (a7 (cN (v' := cut u 128 ((pad 64 xs).drop (128 * m)).length 1) (fo aA cg rfl hru2 (.inr ⟨_, _, rfl, rfl⟩) (.inl ⟨rfl, rfl⟩) ⟨by omega, by rw [hlu]; omega, by omega⟩) (by rw [Int.toNat_natCast]; rfl)) rfl ?_))))
    have hru3 : RdB w15 (cut u 128 ((pad 64 xs).drop (128 * m)).length 1) ((pad 64 xs).drop (128 * (m + 1))) := by have := hru2.cutB (l := 128) (hi := ((pad 64 xs).drop (128 * m)).length) (by rw [hlu]; omega) (Nat.le_refl _); rw [List.take_of_length_le (by rw [List.length_drop]; omega), List.drop_drop] at this; exact this
    have hnu3 : ∀ x, x ∈ vblk (cut u 128 ((pad 64 xs).drop (128 * m)).length 1) → x ≠ b2 := fun x hx => hnu x (lT hx)
    refine oga rfl rfl (a6 (a9 [(1, _), (2, _), (5, _), (6, _)] ⟨rfl, rfl, rfl, rfl, trivial⟩ (bZ (bM (Γ := Nat × S8 64 × Value) ⟨m + 1, blk cT Kl (((pad 64 xs).drop (128 * m)).take 128) X, _⟩ ⟨rfl, rfl, rfl, rfl, trivial⟩ (by (try dsimp only); omega) (⟨by omega, by rw [← heq, kP (show 0 < M - m from by omega), List.drop_drop]; rfl, hru3, hnu3, hbp, hb4, hB⟩)))))
   ·
    refine bF rfl (a5 (aZ (oga rfl rfl (a6 (a5 (a5 (aZ (a7 (ax 14 aG rfl dB (by decide) rfl rfl) rfl (a7 (aa (cs' := [_, _, _, _, _, _, _, _]) sZ dB rfl hbs rfl rfl) rfl (ogm rfl rfl (a6 (ab ?_))))))))))))
    obtain rfl : m = M := by omega
    rw [Nat.sub_self] at heq
    refine bK (Γ := Nat × Value) (fun ⟨i, o⟩ => [(2, .pointer (some ⟨b1, 0, none⟩)), (9, o), (69, .agg [.int .u64 ((X.a).toNat : Int), .int .u64 ((X.b).toNat : Int), .int .u64 ((X.c).toNat : Int), .int .u64 ((X.d).toNat : Int), .int .u64 ((X.e).toNat : Int), .int .u64 ((X.f).toNat : Int), .int .u64 ((X.g).toNat : Int), .int .u64 ((X.h).toNat : Int)].toArray), (70, .int .i64 (i : Int))]) (fun ⟨i, o⟩ W => i ≤ 8 ∧ OwnB W w.heap.size o (((eT X).take i).flatMap fun x => be (x.toNat : Int) 8) ∧ (∀ x, x ∈ vblk o → x ≠ b1) ∧ Bk W b1 113 [.int .i64 64, .int .i64 80, .int .i64 1, .int .i64 8, .int .i64 7, .int .i64 19, .int .i64 61, .int .i64 6, .int .i64 28, .int .i64 34, .int .i64 39, .int .i64 14, .int .i64 18, .int .i64 41] ∧ Keep [] w W) (fun ⟨i, o⟩ => 8 - i) ⟨0, .slice none 0 0⟩ ⟨rfl, rfl, rfl, rfl, trivial⟩ (⟨by omega, dM _ _ _ _, fun x hx => (by cases hx), hbp, hB⟩) ?_
    rintro ⟨i, o⟩ w16 ⟨hi0, ow, hno, hbp, hB⟩
    refine a9 [(2, .pointer (some ⟨b1, 0, none⟩)), (9, o), (69, .agg [.int .u64 ((X.a).toNat : Int), .int .u64 ((X.b).toNat : Int), .int .u64 ((X.c).toNat : Int), .int .u64 ((X.d).toNat : Int), .int .u64 ((X.e).toNat : Int), .int .u64 ((X.f).toNat : Int), .int .u64 ((X.g).toNat : Int), .int .u64 ((X.h).toNat : Int)].toArray), (70, .int .i64 (i : Int))] ⟨rfl, rfl, rfl, rfl, trivial⟩ ?_
    have hfl : (((eT X).take i).flatMap fun x => be (x.toNat : Int) 8).length ≤ 64 := rq X i
    refine a5 (aZ (a7 (bd rfl rfl) rfl (a6 (a5 (bT rfl (fun hc4 => ?_) (fun hc4 => ?_))))))
    ·
     refine af (a5 (ab (a5 (aZ ?_))))
     obtain ⟨x, hx⟩ : ∃ x, (eT X)[i]? = some x := ⟨_, List.getElem?_eq_getElem (show i < (eT X).length from by show i < 8; omega)⟩
     refine a7 (cN (v' := .int .u64 ((x).toNat : Int)) (gX (cs := iv .u64 8 (wN (eT X))) aD ag au rfl rfl (by omega) (bO (by omega))) (by rw [Int.toNat_natCast]; unfold wN; rw [List.getD_eq_getElem?_getD, hx]; rfl)) rfl ?_
     refine oga rfl rfl (a6 (a5 (aZ (a7 (ax 0 aL rfl cU (by decide) rfl rfl) rfl (a7 (ah dc rfl hbp rfl) rfl (a7 (bC (j := 56) (cY rfl rfl) (by decide)) rfl (oga rfl rfl (a6 (ab (bK (Γ := Nat × Value) (fun ⟨j, o'⟩ => [(2, .pointer (some ⟨b1, 0, none⟩)), (9, o'), (11, .int .u64 ((x).toNat : Int)), (12, .int .i64 (56 - 8 * (j : Int))), (69, .agg [.int .u64 ((X.a).toNat : Int), .int .u64 ((X.b).toNat : Int), .int .u64 ((X.c).toNat : Int), .int .u64 ((X.d).toNat : Int), .int .u64 ((X.e).toNat : Int), .int .u64 ((X.f).toNat : Int), .int .u64 ((X.g).toNat : Int), .int .u64 ((X.h).toNat : Int)].toArray), (70, .int .i64 (i : Int))]) (fun ⟨j, o'⟩ W => j ≤ 8 ∧ OwnB W w.heap.size o' ((((eT X).take i).flatMap fun x => be (x.toNat : Int) 8) ++ (be (x.toNat : Int) 8).take j) ∧ (∀ x, x ∈ vblk o' → x ≠ b1) ∧ Bk W b1 113 [.int .i64 64, .int .i64 80, .int .i64 1, .int .i64 8, .int .i64 7, .int .i64 19, .int .i64 61, .int .i64 6, .int .i64 28, .int .i64 34, .int .i64 39, .int .i64 14, .int .i64 18, .int .i64 41] ∧ Keep [] w W) (fun ⟨j, o'⟩ => 8 - j) ⟨0, o⟩ ⟨rfl, rfl, rfl, rfl, rfl, rfl, trivial⟩ (⟨by omega, by rw [List.take_zero, List.append_nil]; exact ow, hno, hbp, hB⟩) ?_))))))))))
     rintro ⟨j, o'⟩ w17 ⟨hj0, ow, hno, hbp, hB⟩
     refine a9 [(2, .pointer (some ⟨b1, 0, none⟩)), (9, o'), (11, .int .u64 ((x).toNat : Int)), (12, .int .i64 (56 - 8 * (j : Int))), (69, .agg [.int .u64 ((X.a).toNat : Int), .int .u64 ((X.b).toNat : Int), .int .u64 ((X.c).toNat : Int), .int .u64 ((X.d).toNat : Int), .int .u64 ((X.e).toNat : Int), .int .u64 ((X.f).toNat : Int), .int .u64 ((X.g).toNat : Int), .int .u64 ((X.h).toNat : Int)].toArray), (70, .int .i64 (i : Int))] ⟨rfl, rfl, rfl, rfl, rfl, rfl, trivial⟩ (a5 (a5 (aZ (ogm rfl rfl (a7 (ii rfl rfl) rfl (a6 (bT rfl (fun hc5 => ?_) (fun hc5 => ?_))))))))
     ·
      refine af (a5 (ab (aZ (ogm rfl rfl (ogm rfl rfl (ogm rfl rfl (a7 (fC rfl rfl (by constructor <;> (try simp only [IntKind.bits]) <;> omega)) rfl (a7 (eb (by rw [aN]; rfl) aH rfl) rfl (ad (dv (m := 1) (xs := [.tmp 84]) (vs := [_]) aA cg (by decide) rfl rfl rfl (by first | (simp; done) | (intro v hv; rw [List.mem_singleton] at hv; subst hv; rfl)) (by decide)) rfl ?_)))))))))
      rintro v7 w18 ⟨o7, nn4, lb7, k13, z7⟩
      replace ow := ow.s8 k13
      obtain ⟨hB, hbp⟩ := bN k13 hB hbp
      have hby : IntKind.u8.wrap ((x.toNat : Int) / 2 ^ (56 - 8 * (j : Int)).toNat) = ((byteAt (x.toNat : Int) (7 - j)).toNat : Int) := by rw [el, IntKind.wrap_u8]; congr 3; omega
      replace o7 := gx o7 hby
      have e1 : (be (x.toNat : Int) 8).take (j + 1) = (be (x.toNat : Int) 8).take j ++ [byteAt (x.toNat : Int) (7 - j)] := eA (by simp only [be, List.getElem?_map]; rw [List.getElem?_range (by omega)]; rfl)
      have hl8 : ((be (x.toNat : Int) 8).take j).length ≤ 8 := by rw [List.length_take, dI]; omega
      have lt_o8 := hbp.lt
      refine ad (dn aA cg rfl ow rfl (show RdB _ _ [byteAt (x.toNat : Int) (7 - j)] from o7.rd) (by simp only [List.length_append, List.length_singleton]; omega) (by have := hB.size; omega)) rfl ?_
      rintro v8 w19 ⟨o8, k14, lb8, _⟩
      replace hB := hB.new k14 (fun x hx => .inl (ow.blk x hx).1)
      replace hbp := hbp.keep k14 (fun hm => hno _ hm rfl)
      have sb_o8 := fun x hx => (lb8 x hx).elim (hno x) (fun h => (show x ≠ b1 from by omega))
      refine oga rfl rfl (a6 (bZ (aZ (ogm rfl rfl (a7 (cN (v' := .int .i64 (56 - 8 * ((j + 1 : Nat) : Int))) (cj rfl rfl (by omega)) (by congr 1; omega)) rfl (oga rfl rfl (a6 (a9 [(2, _), (9, _), (11, _), (12, _), (69, _), (70, _)] ⟨rfl, rfl, rfl, rfl, rfl, rfl, trivial⟩ (bM (Γ := Nat × Value) ⟨j + 1, v8⟩ ⟨rfl, rfl, rfl, rfl, rfl, rfl, trivial⟩ (by (try dsimp only); omega) (⟨by omega, by rw [e1, ← List.append_assoc]; unfold OwnB; rw [List.length_append]; exact o8, sb_o8, hbp, hB⟩))))))))))
     ·
      refine bF rfl (bZ (aZ (a7 (bi rfl rfl (by omega)) rfl (ogm rfl rfl (a6 ?_)))))
      obtain rfl : j = 8 := by omega
      rw [List.take_of_length_le (show (be (x.toNat : Int) 8).length ≤ 8 from by rw [dI]; exact Nat.le_refl _)] at ow
      refine bM (Γ := Nat × Value) ⟨i + 1, o'⟩ ⟨rfl, rfl, rfl, rfl, trivial⟩ (by (try dsimp only); omega) (⟨by omega, by rw [j4 hx]; exact ow, hno, hbp, hB⟩)
    ·
     refine bF rfl (a5 (aZ (ogm rfl rfl (oga rfl rfl (a6 (bG hfin Tryz.results81 rfl ?_))))))
     obtain rfl : i = 8 := by omega
     rw [List.take_of_length_le (show (eT X).length ≤ 8 from Nat.le_refl 8)] at ow
     refine ⟨?_, hB⟩
     unfold Sha.sum
     rw [← hM, ← heq]
     exact ow
abbrev OwnW (w : World) (lo : Nat) (v : Value) (l : List (BitVec 64)) : Prop := Own w lo 47 1 v l.length (wc l)
theorem dL (z1 z2 z3 z4 z5 z6 : Value) (x : BitVec 64) (w : World) : Rets Tryz.prog 120 [.agg [.int .i64 64, z1, z2, z3, z4, z5, z6].toArray, .int .u64 ((x).toNat : Int)] w (fun v w' => v = .int .u64 ((x).toNat : Int) ∧ Keep [] w w') := by
 have hB : Keep [] w w := Keep.refl _ _
 refine ac Tryz.func120 rfl (by decide) Tryz.ntmps120 rfl (fun fin _ hfin => a5 (aZ (ad (bc (cs := [.int .i64 64, z1, z2, z3, z4, z5, z6]) rfl rfl) rfl ?_)))
 rintro _ w1 ⟨b1, rfl, eb1, hb1, k1, z1⟩
 replace hB := hB.trans k1
 clear eb1 z1
 refine oga rfl rfl (a6 (a5 (a5 (aZ (a7 (ax 0 aO rfl cU (by decide) rfl rfl) rfl (a7 (ah dc rfl hb1 rfl) rfl (a7 (fS rfl rfl) rfl (a6 (ci rfl (by decide) (af (a5 (aZ (ogm rfl rfl (oga rfl rfl (a6 (bG hfin Tryz.results120 rfl ?_))))))))))))))))
 exact ⟨rfl, hB⟩
theorem gq (z1 z2 z3 z4 z5 z6 : Value) (x : BitVec 64) (r : Nat) (hr : r ≤ 64) (w : World) : Rets Tryz.prog 125 [.agg [.int .i64 64, z1, z2, z3, z4, z5, z6].toArray, .int .u64 ((x).toNat : Int), .int .i64 (r : Int)] w (fun v w' => v = .int .u64 ((tn x r).toNat : Int) ∧ Keep [] w w') := by
 have hB : Keep [] w w := Keep.refl _ _
 refine ac Tryz.func125 rfl (by decide) Tryz.ntmps125 rfl (fun fin _ hfin => a5 (aZ (ad (bc (cs := [.int .i64 64, z1, z2, z3, z4, z5, z6]) rfl rfl) rfl ?_)))
 rintro _ w1 ⟨b1, rfl, eb1, hb1, k1, z1⟩
 replace hB := hB.trans k1
 clear eb1 z1
 refine oga rfl rfl (a6 (a5 (aZ (a7 (aa (cs' := [_, _, _, _, _, _, _]) dU cz rfl hb1 rfl rfl) rfl (ogm rfl rfl (ogm rfl rfl (a7 (kJ (by rw [aJ]; rfl) aS rfl (by omega)) rfl (a7 (eJ r rfl rfl rfl hr) rfl (ogm rfl rfl (a7 (ax 0 aO rfl cU (by decide) rfl rfl) rfl (a7 (ah dc rfl hb1 rfl) rfl (ogm rfl rfl (a7 (cj rfl rfl (by omega)) rfl (a7 (kJ (by rw [aJ]; rfl) aS rfl (by omega)) rfl (a7 (lB (64 - r) rfl rfl (by omega) (by omega)) rfl (a7 (oM rfl rfl) rfl ?_))))))))))))))))
 refine ad (a8 (vs := [_, _]) rfl (dL _ _ _ _ _ _ ((x >>> r) ||| (x <<< (64 - r))) _)) rfl ?_
 rintro _ w2 ⟨rfl, k2⟩
 replace hB := hB.trans k2
 refine oga rfl rfl (a6 (a9 [(6, _)] ⟨rfl, trivial⟩ (bG hfin Tryz.results125 rfl ?_)))
 exact ⟨rfl, hB⟩
theorem ln (z1 z2 z3 z4 z5 z6 : Value) (x : BitVec 64) (v : Value) (a b c : Nat) (ha : a ≤ 64) (hb : b ≤ 64) (hc : c ≤ 64) (w : World) (hv : Rd w 1 v 3 [.int .i64 (a : Int), .int .i64 (b : Int), .int .i64 (c : Int)]) : Rets Tryz.prog 124 [.agg [.int .i64 64, z1, z2, z3, z4, z5, z6].toArray, .int .u64 ((x).toNat : Int), v] w (fun v w' => v = .int .u64 ((lo (a, b, c) x).toNat : Int) ∧ Keep [] w w') := by
 have hB : Keep [] w w := Keep.refl _ _
 refine ac Tryz.func124 rfl (by decide) Tryz.ntmps124 rfl (fun fin _ hfin => a5 (aZ (ad (bc (cs := [.int .i64 64, z1, z2, z3, z4, z5, z6]) rfl rfl) rfl ?_)))
 rintro _ w1 ⟨b1, rfl, eb1, hb1, k1, z1⟩
 replace hB := hB.trans k1
 clear eb1 z1
 refine oga rfl rfl (a6 (a5 (bf 20 [0, 1, 2, 3, 4, 6, 7, 8, 9, 10, 13, 14, 15, 16, 17, 18, 5, 11, 12, 19] [5, 11] [] mixed [(3, _), (1, _), (2, _), (6, _)] ⟨rfl, rfl, rfl, rfl, trivial⟩ (by decide +kernel) rfl (fun w2 k2 => ?_))))
 obtain ⟨hB, hb1⟩ := bN k2 hB hb1
 refine am 3 rfl rfl rfl rfl (fun W' kk => aa (cs' := [_, _, _, _, _, _, _]) dU cz rfl (Bk.s8 hb1 kk) rfl rfl) (bL 1 rfl rfl rfl rfl rfl (bL 2 rfl rfl rfl rfl rfl (am 9 rfl rfl rfl rfl (fun W' kk => bk aI cU rfl (by first | exact Rd.s8 ‹_› kk | exact Rd.s8 (Own.rd ‹_›) kk | exact Rd.s8 (Rd.s8 ‹_› hB) kk | exact Rd.s8 (Own.rd (Own.s8 ‹_› hB)) kk) rfl (by omega)) (am 10 rfl rfl rfl rfl (fun W' kk => eW dc rfl (by first | exact Rd.s8 ‹_› kk | exact Rd.s8 (Own.rd ‹_›) kk | exact Rd.s8 (Rd.s8 ‹_› hB) kk | exact Rd.s8 (Own.rd (Own.s8 ‹_› hB)) kk) rfl) (am 3 rfl rfl rfl rfl (fun W' kk => aa (cs' := [_, _, _, _, _, _, _]) dU cz rfl (Bk.s8 hb1 kk) rfl rfl) (bL 1 rfl rfl rfl rfl rfl (bL 2 rfl rfl rfl rfl rfl (am 15 rfl rfl rfl rfl (fun W' kk => bk aI cU rfl (by first | exact Rd.s8 ‹_› kk | exact Rd.s8 (Own.rd ‹_›) kk | exact Rd.s8 (Rd.s8 ‹_› hB) kk | exact Rd.s8 (Own.rd (Own.s8 ‹_› hB)) kk) rfl (by omega)) ?_))))))))
 refine am 16 rfl rfl rfl rfl (fun W' kk => eW dc rfl (by first | exact Rd.s8 ‹_› kk | exact Rd.s8 (Own.rd ‹_›) kk | exact Rd.s8 (Rd.s8 ‹_› hB) kk | exact Rd.s8 (Own.rd (Own.s8 ‹_› hB)) kk) rfl) (bL 1 rfl rfl rfl rfl rfl (bL 2 rfl rfl rfl rfl rfl (am 21 rfl rfl rfl rfl (fun W' kk => bk aI cU rfl (by first | exact Rd.s8 ‹_› kk | exact Rd.s8 (Own.rd ‹_›) kk | exact Rd.s8 (Rd.s8 ‹_› hB) kk | exact Rd.s8 (Own.rd (Own.s8 ‹_› hB)) kk) rfl (by omega)) (am 22 rfl rfl rfl rfl (fun W' kk => eW dc rfl (by first | exact Rd.s8 ‹_› kk | exact Rd.s8 (Own.rd ‹_›) kk | exact Rd.s8 (Rd.s8 ‹_› hB) kk | exact Rd.s8 (Own.rd (Own.s8 ‹_› hB)) kk) rfl) (am 23 rfl rfl rfl rfl (fun W' kk => kJ (by rw [aJ]; rfl) aS rfl (by omega)) (cF 20 24 rfl rfl rfl rfl rfl (fun W' kk => eJ c rfl rfl rfl hc) (bq [(7, _), (8, _), (11, _)] rfl rfl ⟨rfl, rfl, rfl, trivial⟩ rfl (a8 (vs := [_, _, _]) rfl (gq _ _ _ _ _ _ x a ha _)) ?_)))))))
 rintro _ w3 ⟨rfl, k3⟩
 refine ⟨k3, ?_⟩
 replace hB := hB.trans k3
 refine bq [(13, _), (14, _), (17, _)] rfl rfl ⟨rfl, rfl, rfl, trivial⟩ rfl (a8 (vs := [_, _, _]) rfl (gq _ _ _ _ _ _ x b hb _)) ?_
 rintro _ w4 ⟨rfl, k4⟩
 refine ⟨k4, ?_⟩
 replace hB := hB.trans k4
 refine cF 12 18 rfl rfl rfl rfl rfl (fun W' kk => eV rfl rfl) (cF 19 25 rfl rfl rfl rfl rfl (fun W' kk => eV rfl rfl) (bz (oga rfl rfl (a6 (a9 [(6, _)] ⟨rfl, trivial⟩ (bG hfin Tryz.results124 rfl ?_))))))
 exact ⟨rfl, hB⟩
theorem jy (z1 z2 z3 z4 z5 z6 : Value) (x : BitVec 64) (v : Value) (a b c : Nat) (ha : a ≤ 64) (hb : b ≤ 64) (hc : c ≤ 64) (w : World) (hv : Rd w 1 v 3 [.int .i64 (a : Int), .int .i64 (b : Int), .int .i64 (c : Int)]) : Rets Tryz.prog 121 [.agg [.int .i64 64, z1, z2, z3, z4, z5, z6].toArray, .int .u64 ((x).toNat : Int), v] w (fun v w' => v = .int .u64 ((hi (a, b, c) x).toNat : Int) ∧ Keep [] w w') := by
 have hB : Keep [] w w := Keep.refl _ _
 refine ac Tryz.func121 rfl (by decide) Tryz.ntmps121 rfl (fun fin _ hfin => a5 (aZ (ad (bc (cs := [.int .i64 64, z1, z2, z3, z4, z5, z6]) rfl rfl) rfl ?_)))
 rintro _ w1 ⟨b1, rfl, eb1, hb1, k1, z1⟩
 replace hB := hB.trans k1
 clear eb1 z1
 refine oga rfl rfl (a6 (a5 (bf 20 [0, 1, 2, 3, 4, 6, 7, 8, 9, 10, 13, 14, 15, 16, 17, 5, 11, 12, 18, 19] [5, 11, 18] [] mixed [(3, _), (1, _), (2, _), (6, _)] ⟨rfl, rfl, rfl, rfl, trivial⟩ (by decide +kernel) rfl (fun w2 k2 => ?_))))
 obtain ⟨hB, hb1⟩ := bN k2 hB hb1
 refine am 3 rfl rfl rfl rfl (fun W' kk => aa (cs' := [_, _, _, _, _, _, _]) dU cz rfl (Bk.s8 hb1 kk) rfl rfl) (bL 1 rfl rfl rfl rfl rfl (bL 2 rfl rfl rfl rfl rfl (am 9 rfl rfl rfl rfl (fun W' kk => bk aI cU rfl (by first | exact Rd.s8 ‹_› kk | exact Rd.s8 (Own.rd ‹_›) kk | exact Rd.s8 (Rd.s8 ‹_› hB) kk | exact Rd.s8 (Own.rd (Own.s8 ‹_› hB)) kk) rfl (by omega)) (am 10 rfl rfl rfl rfl (fun W' kk => eW dc rfl (by first | exact Rd.s8 ‹_› kk | exact Rd.s8 (Own.rd ‹_›) kk | exact Rd.s8 (Rd.s8 ‹_› hB) kk | exact Rd.s8 (Own.rd (Own.s8 ‹_› hB)) kk) rfl) (am 3 rfl rfl rfl rfl (fun W' kk => aa (cs' := [_, _, _, _, _, _, _]) dU cz rfl (Bk.s8 hb1 kk) rfl rfl) (bL 1 rfl rfl rfl rfl rfl (bL 2 rfl rfl rfl rfl rfl (am 15 rfl rfl rfl rfl (fun W' kk => bk aI cU rfl (by first | exact Rd.s8 ‹_› kk | exact Rd.s8 (Own.rd ‹_›) kk | exact Rd.s8 (Rd.s8 ‹_› hB) kk | exact Rd.s8 (Own.rd (Own.s8 ‹_› hB)) kk) rfl (by omega)) ?_))))))))
 refine am 16 rfl rfl rfl rfl (fun W' kk => eW dc rfl (by first | exact Rd.s8 ‹_› kk | exact Rd.s8 (Own.rd ‹_›) kk | exact Rd.s8 (Rd.s8 ‹_› hB) kk | exact Rd.s8 (Own.rd (Own.s8 ‹_› hB)) kk) rfl) (am 3 rfl rfl rfl rfl (fun W' kk => aa (cs' := [_, _, _, _, _, _, _]) dU cz rfl (Bk.s8 hb1 kk) rfl rfl) (bL 1 rfl rfl rfl rfl rfl (bL 2 rfl rfl rfl rfl rfl (am 22 rfl rfl rfl rfl (fun W' kk => bk aI cU rfl (by first | exact Rd.s8 ‹_› kk | exact Rd.s8 (Own.rd ‹_›) kk | exact Rd.s8 (Rd.s8 ‹_› hB) kk | exact Rd.s8 (Own.rd (Own.s8 ‹_› hB)) kk) rfl (by omega)) (am 23 rfl rfl rfl rfl (fun W' kk => eW dc rfl (by first | exact Rd.s8 ‹_› kk | exact Rd.s8 (Own.rd ‹_›) kk | exact Rd.s8 (Rd.s8 ‹_› hB) kk | exact Rd.s8 (Own.rd (Own.s8 ‹_› hB)) kk) rfl) (bq [(7, _), (8, _), (11, _)] rfl rfl ⟨rfl, rfl, rfl, trivial⟩ rfl (a8 (vs := [_, _, _]) rfl (gq _ _ _ _ _ _ x a ha _)) ?_))))))
 rintro _ w3 ⟨rfl, k3⟩
 refine ⟨k3, ?_⟩
 replace hB := hB.trans k3
 refine bq [(13, _), (14, _), (17, _)] rfl rfl ⟨rfl, rfl, rfl, trivial⟩ rfl (a8 (vs := [_, _, _]) rfl (gq _ _ _ _ _ _ x b hb _)) ?_
 rintro _ w4 ⟨rfl, k4⟩
 refine ⟨k4, ?_⟩
 replace hB := hB.trans k4
 refine cF 12 18 rfl rfl rfl rfl rfl (fun W' kk => eV rfl rfl) (bq [(20, _), (21, _), (24, _)] rfl rfl ⟨rfl, rfl, rfl, trivial⟩ rfl (a8 (vs := [_, _, _]) rfl (gq _ _ _ _ _ _ x c hc _)) ?_)
 rintro _ w5 ⟨rfl, k5⟩
 refine ⟨k5, ?_⟩
 replace hB := hB.trans k5
 refine cF 19 25 rfl rfl rfl rfl rfl (fun W' kk => eV rfl rfl) (bz (oga rfl rfl (a6 (a9 [(6, _)] ⟨rfl, trivial⟩ (bG hfin Tryz.results121 rfl ?_)))))
 exact ⟨rfl, hB⟩
theorem mo (l0 l1 u0 u1 : Value) (v : Value) (bs : List UInt8) (w : World) (hl0 : Rd w 1 l0 3 [.int .i64 1, .int .i64 8, .int .i64 7]) (hl1 : Rd w 1 l1 3 [.int .i64 19, .int .i64 61, .int .i64 6]) (hu0 : Rd w 1 u0 3 [.int .i64 28, .int .i64 34, .int .i64 39]) (hu1 : Rd w 1 u1 3 [.int .i64 14, .int .i64 18, .int .i64 41]) (hv : RdB w v bs) (hl : bs.length = 128) : Rets Tryz.prog 119 [.agg [.int .i64 64, .int .i64 128, .int .i64 80, l0, l1, u0, u1].toArray, v] w (fun r w' => OwnW w' w.heap.size r (sch cT bs 64) ∧ Keep [] w w') := by
  have hB : Keep [] w w := Keep.refl _ _
  refine ac Tryz.func119 rfl (by decide) Tryz.ntmps119 rfl (fun fin _ hfin => a5 (aZ (ad (bc (cs := [.int .i64 64, .int .i64 128, .int .i64 80, l0, l1, u0, u1]) rfl rfl) rfl ?_)))
  rintro _ w1 ⟨b1, rfl, eb1, hb1, k1, z1⟩
  replace hB := hB.trans k1
  clear eb1 z1
  refine oga rfl rfl (a6 (a5 (aZ (a7 (ax 0 aO rfl cU (by decide) rfl rfl) rfl (a7 (ah dc rfl hb1 rfl) rfl (a7 (bC (j := 8) (es rfl rfl (by decide)) (by decide)) rfl (oga rfl rfl (a6 ?_))))))))
  refine a5 (aZ (oga rfl rfl (a6 (a5 (a5 (aZ (oga rfl rfl (a6 ?_))))))))
  refine ab (bK (Γ := Nat × Value) (fun ⟨i, o⟩ => [(1, v), (2, .pointer (some ⟨b1, 0, none⟩)), (5, .int .i64 8), (6, o), (7, .int .i64 (i : Int))]) (fun ⟨i, o⟩ W => i ≤ 16 ∧ OwnW W w.heap.size o ((List.range i).map (wrd 64 bs)) ∧ (∀ x, x ∈ vblk o → x ≠ b1) ∧ Bk W b1 116 [.int .i64 64, .int .i64 128, .int .i64 80, l0, l1, u0, u1] ∧ Keep [] w W) (fun ⟨i, o⟩ => 16 - i) ⟨0, .slice none 0 0⟩ ⟨rfl, rfl, rfl, rfl, rfl, trivial⟩ (⟨by omega, dM _ _ _ _, fun x hx => (by cases hx), hb1, hB⟩) ?_)
  rintro ⟨i, o⟩ w2 ⟨hi0, ow, hno, hbz, hB⟩
  refine a9 [(1, v), (2, .pointer (some ⟨b1, 0, none⟩)), (5, .int .i64 8), (6, o), (7, .int .i64 (i : Int))] ⟨rfl, rfl, rfl, rfl, rfl, trivial⟩ ?_
  have hwl : ((List.range i).map (wrd 64 bs)).length = i := by simp
  have hcl : ((bs.drop (8 * i)).take 8).length = 8 ∨ 16 ≤ i := by rw [List.length_take, List.length_drop]; omega
  refine a5 (a5 (aZ (ogm rfl rfl (a7 (bd rfl rfl) rfl (a6 (bT rfl (fun hc1 => ?_) (fun hc1 => ?_)))))))
  · -- yes
    refine af (a5 (ab (a5 (aZ (a7 (cN (v' := .int .u64 ((wrdF (n := 64) 0 (((bs.drop (8 * i)).take 8).take 0)).toNat : Int)) (fe rfl) (show Value.int .u64 0 = _ from by rw [List.take_zero]; rfl)) rfl (a6 (a5 (a5 ?_))))))))
    refine aZ (oga rfl rfl (a6 (ab (bK (Γ := Nat) (fun k => [(1, v), (2, .pointer (some ⟨b1, 0, none⟩)), (5, .int .i64 8), (6, o), (7, .int .i64 (i : Int)), (8, .int .u64 ((wrdF (n := 64) 0 (((bs.drop (8 * i)).take 8).take k)).toNat : Int)), (9, .int .i64 (k : Int))]) (fun k W => k ≤ 8 ∧ OwnW W w.heap.size o ((List.range i).map (wrd 64 bs)) ∧ Bk W b1 116 [.int .i64 64, .int .i64 128, .int .i64 80, l0, l1, u0, u1] ∧ Keep [] w W) (fun k => 8 - k) 0 ⟨rfl, rfl, rfl, rfl, rfl, rfl, rfl, trivial⟩ (⟨by omega, ow, hbz, hB⟩) ?_))))
    rintro k w3 ⟨hk0, ow, hbz, hB⟩
    refine a9 [(1, v), (2, .pointer (some ⟨b1, 0, none⟩)), (5, .int .i64 8), (6, o), (7, .int .i64 (i : Int)), (8, .int .u64 ((wrdF (n := 64) 0 (((bs.drop (8 * i)).take 8).take k)).toNat : Int)), (9, .int .i64 (k : Int))] ⟨rfl, rfl, rfl, rfl, rfl, rfl, rfl, trivial⟩ (a5 (a5 (aZ (ogm rfl rfl (ogm rfl rfl (a7 (bd rfl rfl) rfl (a6 (bT rfl (fun hc2 => ?_) (fun hc2 => ?_)))))))))
    · -- yes
      refine af (a5 (ab (aZ (ogm rfl rfl (a7 (lB 8 rfl rfl rfl (by decide)) rfl (ogm rfl rfl (ogm rfl rfl (ogm rfl rfl ?_))))))))
      refine a7 (fR rfl rfl (by omega)) rfl (ogm rfl rfl (a7 (bi rfl rfl (by omega)) rfl (a7 (bk aA cg rfl (by first | assumption | exact Own.rd (by assumption) | exact Rd.s8 (by assumption) hB | exact Own.rd (Own.s8 (by assumption) hB)) rfl (by omega)) rfl ?_)))
      obtain ⟨c, hc⟩ : ∃ c, ((bs.drop (8 * i)).take 8)[k]? = some c := ⟨_, List.getElem?_eq_getElem (by omega)⟩
      have hgc : gb bs (8 * (i : Int) + (k : Int)) = (c.toNat : Int) := by unfold gb; rw [List.getD_eq_getElem?_getD, show (8 * (i : Int) + (k : Int)).toNat = 8 * i + k from by omega, ← List.getElem?_drop]; rw [List.getElem?_take_of_lt (by omega)] at hc; rw [hc]; rfl
      refine a7 (cN (v' := .int .u8 (c.toNat : Int)) (dT iI rfl (by first | assumption | exact Own.rd (by assumption) | exact Rd.s8 (by assumption) hB | exact Own.rd (Own.s8 (by assumption) hB)) (by omega)) (by rw [hgc])) rfl (a7 (gb_cv c (by rw [aH]; rfl) aN rfl rfl) rfl (a7 (cN (v' := .int .u64 ((wrdF (n := 64) 0 (((bs.drop (8 * i)).take 8).take (k + 1))).toNat : Int)) (oM rfl rfl) (by rw [jp hc])) rfl (oga rfl rfl (a6 (a9 [(1, _), (2, _), (5, _), (6, _), (7, _), (8, _), (9, _)] ⟨rfl, rfl, rfl, rfl, rfl, rfl, rfl, trivial⟩ (bZ (aZ (ogm rfl rfl ?_))))))))
      refine a7 (bi rfl rfl (by omega)) rfl (oga rfl rfl (a6 (bM (Γ := Nat) (k + 1) ⟨rfl, rfl, rfl, rfl, rfl, rfl, rfl, trivial⟩ (by (try dsimp only); omega) (⟨by omega, ow, hbz, hB⟩))))
    · -- no
      refine bF rfl (aZ (ogm rfl rfl (ogm rfl rfl (ad (dv (m := 1) (xs := [.tmp 36]) (vs := [_]) aC ag (by decide) rfl rfl rfl (by first | (simp; done) | (intro v hv; rw [List.mem_singleton] at hv; subst hv; rfl)) (by decide)) rfl ?_))))
      rintro v1 w4 ⟨o1, nn1, lb1, k2, z2⟩
      replace ow := ow.s8 k2
      obtain ⟨hB, hbz⟩ := bN k2 hB hbz
      have lt_b1_o2 := hbz.lt
      refine ad (lK (ys := [wrdF (n := 64) 0 (((bs.drop (8 * i)).take 8).take k)]) aC ag rfl rfl ow rfl o1.rd (by simp only [List.length_singleton] at *; omega) (by have := hB.size; omega)) rfl ?_
      rintro v2 w5 ⟨o2, k3, lb2⟩
      replace hB := hB.new k3 (fun x hx => .inl (ow.blk x hx).1)
      replace hbz := hbz.keep k3 (fun hm => hno _ hm rfl)
      have sb_b1_o2 := fun x hx => (lb2 x hx).elim (hno x) (fun h => (show x ≠ b1 from by omega))
      replace o2 : OwnW w5 w.heap.size v2 (((List.range i).map (wrd 64 bs)) ++ [wrdF (n := 64) 0 (((bs.drop (8 * i)).take 8).take k)]) := by unfold OwnW; rw [List.length_append]; exact o2
      refine oga rfl rfl (a6 (bZ (aZ (ogm rfl rfl (a7 (bi rfl rfl (by omega)) rfl (oga rfl rfl (a6 (a9 [(1, _), (2, _), (5, _), (6, _), (7, _)] ⟨rfl, rfl, rfl, rfl, rfl, trivial⟩ ?_))))))))
      obtain rfl : k = 8 := by omega
      rw [List.take_of_length_le (show ((bs.drop (8 * i)).take 8).length ≤ 8 from by omega)] at o2
      refine bM (Γ := Nat × Value) ⟨i + 1, v2⟩ ⟨rfl, rfl, rfl, rfl, rfl, trivial⟩ (by (try dsimp only); omega) (⟨by omega, by rw [jo]; exact o2, sb_b1_o2, hbz, hB⟩)
  · -- no
    refine bF rfl (a5 (a5 (aZ (oga rfl rfl (a6 (ab ?_))))))
    obtain rfl : i = 16 := by omega
    refine bK (Γ := Nat × Value) (fun ⟨t, o⟩ => [(2, .pointer (some ⟨b1, 0, none⟩)), (6, o), (10, .int .i64 (t : Int))]) (fun ⟨t, o⟩ W => 16 ≤ t ∧ t ≤ 80 ∧ OwnW W w.heap.size o (sch cT bs (t - 16)) ∧ (∀ x, x ∈ vblk o → x ≠ b1) ∧ Bk W b1 116 [.int .i64 64, .int .i64 128, .int .i64 80, l0, l1, u0, u1] ∧ Keep [] w W) (fun ⟨t, o⟩ => 80 - t) ⟨16, o⟩ ⟨rfl, rfl, rfl, trivial⟩ (⟨by omega, by omega, ow, hno, hbz, hB⟩) ?_
    rintro ⟨t, o⟩ w6 ⟨ht0, ht1, ow, hno, hbz, hB⟩
    refine a9 [(2, .pointer (some ⟨b1, 0, none⟩)), (6, o), (10, .int .i64 (t : Int))] ⟨rfl, rfl, rfl, trivial⟩ ?_
    have hsl : (sch cT bs (t - 16)).length = t := by rw [e7]; omega
    refine a5 (a5 (aZ (ogm rfl rfl (a7 (ax 2 aO rfl cU (by decide) rfl rfl) rfl (a7 (ah dc rfl hbz rfl) rfl (a7 (bd rfl rfl) rfl (a6 (bT rfl (fun hc3 => ?_) (fun hc3 => ?_)))))))))
    · -- yes
      refine af (a5 (ab (bW 35 [0, 1, 2, 3, 4, 5, 6, 7, 8, 9, 11, 12, 13, 14, 15, 17, 18, 19, 20, 21, 22, 23, 24, 27, 28, 29, 30, 31, 10, 16, 25, 26, 32, 33, 34] [10, 25, 33, 34] [] [] mixed [(6, _), (2, _), (10, _)] ⟨rfl, rfl, rfl, trivial⟩ (by decide +kernel) (by decide) (by decide) ?_ (fun x hx => by cases hx) rfl (fun w7 k4 => ?_))))
      · intro q hq; cases hq
      replace ow := ow.s8 k4
      obtain ⟨hB, hbz⟩ := bN k4 hB hbz
      refine bu 6 rfl rfl rfl rfl rfl (al 2 rfl rfl rfl rfl (fun W' kk => aa (cs' := [_, _, _, _, _, _, _]) dU cz rfl (Bk.s8 hbz kk) rfl rfl) (al 2 rfl rfl rfl rfl (fun W' kk => aa (cs' := [_, _, _, _, _, _, _]) dU cz rfl (Bk.s8 hbz kk) rfl rfl) (bu 6 rfl rfl rfl rfl rfl (bu 10 rfl rfl rfl rfl rfl (al 49 rfl rfl rfl rfl (fun W' kk => cj rfl rfl (by omega)) (cn 48 50 rfl rfl rfl rfl rfl (fun W' kk => bk aC ag rfl (ow.s8 kk).rd rfl (by omega)) (al 51 rfl rfl rfl rfl (fun W' kk => cq (l := (sch cT bs (t - 16))) (t - 2) au rfl (by first | exact Rd.s8 (by assumption) kk | exact Rd.s8 (Own.rd (by assumption)) kk | exact Rd.s8 (Rd.s8 (by assumption) hB) kk | exact Rd.s8 (Own.rd (Own.s8 (by assumption) hB)) kk) (by omega) (by omega)) (al 2 rfl rfl rfl rfl (fun W' kk => ax 4 aO rfl ty87 (by decide) rfl rfl) ?_))))))))
      refine al 53 rfl rfl rfl rfl (fun W' kk => ah sc87 rfl (Bk.s8 hbz kk) rfl) (bu 6 rfl rfl rfl rfl rfl (bu 10 rfl rfl rfl rfl rfl (al 57 rfl rfl rfl rfl (fun W' kk => cj rfl rfl (by omega)) (cn 56 58 rfl rfl rfl rfl rfl (fun W' kk => bk aC ag rfl (ow.s8 kk).rd rfl (by omega)) (al 59 rfl rfl rfl rfl (fun W' kk => cq (l := (sch cT bs (t - 16))) (t - 7) au rfl (by first | exact Rd.s8 (by assumption) kk | exact Rd.s8 (Own.rd (by assumption)) kk | exact Rd.s8 (Rd.s8 (by assumption) hB) kk | exact Rd.s8 (Own.rd (Own.s8 (by assumption) hB)) kk) (by omega) (by omega)) (al 2 rfl rfl rfl rfl (fun W' kk => aa (cs' := [_, _, _, _, _, _, _]) dU cz rfl (Bk.s8 hbz kk) rfl rfl) (bu 6 rfl rfl rfl rfl rfl (bu 10 rfl rfl rfl rfl rfl ?_))))))))
      refine al 64 rfl rfl rfl rfl (fun W' kk => cj rfl rfl (by omega)) (cn 63 65 rfl rfl rfl rfl rfl (fun W' kk => bk aC ag rfl (ow.s8 kk).rd rfl (by omega)) (al 66 rfl rfl rfl rfl (fun W' kk => cq (l := (sch cT bs (t - 16))) (t - 15) au rfl (by first | exact Rd.s8 (by assumption) kk | exact Rd.s8 (Own.rd (by assumption)) kk | exact Rd.s8 (Rd.s8 (by assumption) hB) kk | exact Rd.s8 (Own.rd (Own.s8 (by assumption) hB)) kk) (by omega) (by omega)) (al 2 rfl rfl rfl rfl (fun W' kk => ax 3 aO rfl ty87 (by decide) rfl rfl) (al 68 rfl rfl rfl rfl (fun W' kk => ah sc87 rfl (Bk.s8 hbz kk) rfl) (bu 6 rfl rfl rfl rfl rfl (bu 10 rfl rfl rfl rfl rfl (al 73 rfl rfl rfl rfl (fun W' kk => cj rfl rfl (by omega)) (cn 72 74 rfl rfl rfl rfl rfl (fun W' kk => bk aC ag rfl (ow.s8 kk).rd rfl (by omega)) ?_))))))))
      refine al 75 rfl rfl rfl rfl (fun W' kk => cq (l := (sch cT bs (t - 16))) (t - 16) au rfl (by first | exact Rd.s8 (by assumption) kk | exact Rd.s8 (Own.rd (by assumption)) kk | exact Rd.s8 (Rd.s8 (by assumption) hB) kk | exact Rd.s8 (Own.rd (Own.s8 (by assumption) hB)) kk) (by omega) (by omega)) (bo [(47, _), (52, _), (54, _)] rfl rfl ⟨rfl, rfl, rfl, trivial⟩ rfl (fun w9 k6 => ?_))
      replace ow := ow.s8 k6
      obtain ⟨hB, hbz⟩ := bN k6 hB hbz
      refine (a8 (vs := [_, _, _]) rfl (ln _ _ _ _ _ _ ((sch cT bs (t - 16)).getD (t - 2) 0) _ 19 61 6 (by decide) (by decide) (by decide) _ (hl1.s8 hB))).mono ?_
      rintro _ w8 ⟨rfl, k5⟩
      refine ⟨k5, nox, ?_⟩
      replace ow := ow.s8 k5
      obtain ⟨hB, hbz⟩ := bN k5 hB hbz
      refine cn 55 60 rfl rfl rfl rfl rfl (fun W' kk => cQ rfl rfl) (bo [(62, _), (67, _), (69, _)] rfl rfl ⟨rfl, rfl, rfl, trivial⟩ rfl (fun w11 k8 => ?_))
      replace ow := ow.s8 k8
      obtain ⟨hB, hbz⟩ := bN k8 hB hbz
      refine (a8 (vs := [_, _, _]) rfl (ln _ _ _ _ _ _ ((sch cT bs (t - 16)).getD (t - 15) 0) _ 1 8 7 (by decide) (by decide) (by decide) _ (hl0.s8 hB))).mono ?_
      rintro _ w10 ⟨rfl, k7⟩
      refine ⟨k7, nox, ?_⟩
      replace ow := ow.s8 k7
      obtain ⟨hB, hbz⟩ := bN k7 hB hbz
      refine cn 61 70 rfl rfl rfl rfl rfl (fun W' kk => cQ rfl rfl) (cn 71 76 rfl rfl rfl rfl rfl (fun W' kk => cQ rfl rfl) (bo [(46, _), (77, _)] rfl rfl ⟨rfl, rfl, trivial⟩ rfl (fun w13 k10 => ?_)))
      replace ow := ow.s8 k10
      obtain ⟨hB, hbz⟩ := bN k10 hB hbz
      refine (a8 (vs := [_, _]) rfl (dL _ _ _ _ _ _ ((((lo (19, 61, 6) ((sch cT bs (t - 16)).getD (t - 2) 0)) + ((sch cT bs (t - 16)).getD (t - 7) 0)) + (lo (1, 8, 7) ((sch cT bs (t - 16)).getD (t - 15) 0))) + ((sch cT bs (t - 16)).getD (t - 16) 0)) _)).mono ?_
      rintro _ w12 ⟨rfl, k9⟩
      refine ⟨k9, nox, ?_⟩
      replace ow := ow.s8 k9
      obtain ⟨hB, hbz⟩ := bN k9 hB hbz
      refine bo [(78, _)] rfl rfl ⟨rfl, trivial⟩ rfl (fun w15 k12 => ?_)
      replace ow := ow.s8 k12
      obtain ⟨hB, hbz⟩ := bN k12 hB hbz
      refine (dv (m := 1) (xs := [.tmp 78]) (vs := [_]) aC ag (by decide) rfl rfl rfl (by first | (simp; done) | (intro v hv; rw [List.mem_singleton] at hv; subst hv; rfl)) (by decide)).mono ?_
      rintro v3 w14 ⟨o3, nn2, lb3, k11, z3⟩
      refine ⟨k11, (fun x hx => ⟨.inr (o3.blk x (o3.rd.cblk ▸ hx)).1, (o3.blk x (o3.rd.cblk ▸ hx)).2⟩), ?_⟩
      replace ow := ow.s8 k11
      obtain ⟨hB, hbz⟩ := bN k11 hB hbz
      refine cC (fun w16 k13 => ?_)
      replace ow := ow.s8 k13
      replace hbz := hbz.s8 k13
      replace o3 := o3.s8 k13
      replace hB := hB.trans k13
      refine bX ?_
      have lt_b1_o4 := hbz.lt
      refine ad (lK (ys := [(((lo (19, 61, 6) ((sch cT bs (t - 16)).getD (t - 2) 0)) + ((sch cT bs (t - 16)).getD (t - 7) 0)) + (lo (1, 8, 7) ((sch cT bs (t - 16)).getD (t - 15) 0))) + ((sch cT bs (t - 16)).getD (t - 16) 0)]) aC ag rfl rfl ow rfl o3.rd (by simp only [List.length_singleton] at *; omega) (by have := hB.size; omega)) rfl ?_
      rintro v4 w17 ⟨o4, k14, lb4⟩
      replace hB := hB.new k14 (fun x hx => .inl (ow.blk x hx).1)
      replace hbz := hbz.keep k14 (fun hm => hno _ hm rfl)
      have sb_b1_o4 := fun x hx => (lb4 x hx).elim (hno x) (fun h => (show x ≠ b1 from by omega))
      replace o4 : OwnW w17 w.heap.size v4 ((sch cT bs (t - 16)) ++ [(((lo (19, 61, 6) ((sch cT bs (t - 16)).getD (t - 2) 0)) + ((sch cT bs (t - 16)).getD (t - 7) 0)) + (lo (1, 8, 7) ((sch cT bs (t - 16)).getD (t - 15) 0))) + ((sch cT bs (t - 16)).getD (t - 16) 0)]) := by unfold OwnW; rw [List.length_append]; exact o4
      refine oga rfl rfl (a6 (a9 [(6, _), (2, _), (10, _)] ⟨rfl, rfl, rfl, trivial⟩ (bZ (aZ (ogm rfl rfl (a7 (bi rfl rfl (by omega)) rfl (oga rfl rfl (a6 ?_))))))))
      refine bM (Γ := Nat × Value) ⟨t + 1, v4⟩ ⟨rfl, rfl, rfl, trivial⟩ (by (try dsimp only); omega) (⟨by omega, by omega, by rw [show t + 1 - 16 = (t - 16) + 1 from by omega, sch, show 16 + (t - 16) = t from by omega]; exact o4, sb_b1_o4, hbz, hB⟩)
    · -- no
      refine bF rfl (a5 (aZ (ogm rfl rfl (oga rfl rfl (a6 (bG hfin Tryz.results119 rfl ?_))))))
      obtain rfl : t = 80 := by omega
      exact ⟨ow, hB⟩
end Go.Proofs.YtllmbkmghmmhfaaGreatDoor.W
