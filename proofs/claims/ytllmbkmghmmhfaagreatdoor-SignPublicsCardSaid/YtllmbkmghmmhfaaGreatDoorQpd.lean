/- Contracts and laws, part 4 of 6: what each function of the program and of the reference computes, shown once. -/
import Derived.Shelf.Spec.BitsCarry
import Derived.Test.YtllmbkmghmmhfaaGreatDoorQpc
set_option maxRecDepth 100000
set_option maxHeartbeats 4000000
set_option linter.unusedVariables false
set_option linter.unusedSimpArgs false
namespace Go.Fld
open Go Go.Eng Go.Ed Go.Byt
theorem oB {f : Nat → Int} (hf : Wd f) {i : Nat} (hi : i < 72) : f (i / 8) / 2 ^ (8 * ((i : Int) % 8)).toNat % 256 = vW f 9 / 256 ^ i % 256 := by
 have e8 : (8 * ((i : Int) % 8)).toNat = 8 * (i % 8) := by omega
 rw [e8, ← gl]
 have e : (256 : Int) ^ i = 18446744073709551616 ^ (i / 8) * 256 ^ (i % 8) := by
   rw [show (18446744073709551616 : Int) = 256 ^ 8 by decide, ← Int.pow_mul, ← Int.pow_add]; congr 1; omega
 have hs := ig f (i / 8) (9 - i / 8)
 rw [show i / 8 + (9 - i / 8) = 9 by omega] at hs
 have hb := iR (f := f) (n := i / 8) (fun j hj => hf j (by omega))
 have hw := powW (i / 8)
 have hd : vW f 9 / 18446744073709551616 ^ (i / 8) = vW (fun j => f (i / 8 + j)) (9 - i / 8) := by
   rw [hs, Int.add_mul_ediv_left _ _ (by omega), Int.ediv_eq_zero_of_lt hb.1 hb.2, Int.zero_add]
 rw [e, ← Int.ediv_ediv_of_nonneg (by omega), hd]
 have h1 := ig (fun j => f (i / 8 + j)) 1 (9 - i / 8 - 1)
 rw [show 1 + (9 - i / 8 - 1) = 9 - i / 8 by omega] at h1
 have h2 : vW (fun j => f (i / 8 + j)) 1 = f (i / 8) := by simp [vW]
 rw [h1, h2, Int.pow_one]
 generalize vW (fun j => (fun j => f (i / 8 + j)) (1 + j)) (9 - i / 8 - 1) = r
 generalize f (i / 8) = x
 have hm : i % 8 = 0 ∨ i % 8 = 1 ∨ i % 8 = 2 ∨ i % 8 = 3 ∨ i % 8 = 4 ∨ i % 8 = 5 ∨ i % 8 = 6 ∨ i % 8 = 7 := by omega
 rcases hm with h | h | h | h | h | h | h | h <;> rw [h] <;> simp <;> omega
def MinI (w l g : Nat → Int) (c : Int) (i : Nat) : Prop := In c 0 1 ∧ Wd g ∧ (∀ j, i ≤ j → g j = w j) ∧ vW g i + vW l i = vW w i + c * 18446744073709551616 ^ i
theorem mn {w : Nat → Int} (l : Nat → Int) (hw : Wd w) : MinI w l w 0 0 := ⟨by decide, hw, fun _ _ => rfl, by simp [vW]⟩
theorem pG {w l g : Nat → Int} {c a b v e : Int} {i : Nat} (hl : Wd l) (h : MinI w l g c i) (hi : i < 9) (ha : Eqn a (g i)) (hb : Eqn b (l i)) (hv : Eqn v ((a - b - c) % 18446744073709551616)) (he : Eqn e (bif decide (a - b - c < 0) then 1 else 0)) : MinI w l (upd g i v) e (i + 1) := by
 unfold Eqn at *
 obtain ⟨h1, h2, h3, h4⟩ := h
 have g1 := h2 i hi
 have l1 := hl i hi
 subst ha hb
 have hk : v = g i - l i - c + e * 18446744073709551616 ∧ In e 0 1 ∧ In v 0 18446744073709551615 := by
   unfold In at *
   by_cases hd : g i - l i - c < 0
   · rw [decide_eq_true hd, cond_true] at he; omega
   · rw [decide_eq_false hd, cond_false] at he; omega
 obtain ⟨k1, k2, k3⟩ := hk
 refine ⟨k2, fun j hj => ?_, fun j hj => ?_, ?_⟩
 · by_cases e : j = i
   · subst e; rw [bn]; exact k3
   · rw [av _ _ e]; exact h2 j hj
 · rw [av _ _ (by omega)]; exact h3 j (by omega)
 · rw [vW, vW, vW, iA _ _ (Nat.le_refl _), bn, k1, ← h3 i (Nat.le_refl _), Int.pow_succ]
   generalize (18446744073709551616 : Int) ^ i = p at *
   generalize vW g i = x1 at *
   generalize vW l i = x2 at *
   generalize vW w i = x3 at *
   grind -lia -linarith
theorem qk {w l g : Nat → Int} {c : Int} {i : Nat} (hw : Wd w) (hl : Wd l) (h : MinI w l g c i) (hi : i = 9) : decide (c = 0) = decide (vW l 9 ≤ vW w 9) ∧ Wd g ∧ (vW l 9 ≤ vW w 9 → vW g 9 = vW w 9 - vW l 9) := by
 subst hi
 obtain ⟨h1, h2, _, h4⟩ := h
 have b1 := iR (f := g) (n := 9) h2
 have b2 := iR (f := l) (n := 9) hl
 have b3 := iR (f := w) (n := 9) hw
 have hp := powW 9
 unfold In at h1
 have hc : c = 0 ∨ c = 1 := by omega
 rcases hc with rfl | rfl
 · refine ⟨?_, h2, fun _ => by omega⟩
   rw [decide_eq_true rfl, decide_eq_true (by omega)]
 · refine ⟨?_, h2, fun h => by omega⟩
   rw [decide_eq_false (by decide), decide_eq_false (by omega)]
def ordW : Nat → Int := vecN [6346243789798364141, 1503914060200516822, 0, 1152921504606846976]
theorem i6 (j : Nat) : In (ordW j) 0 18446744073709551615 := by
 match j with
 | 0 => decide
 | 1 => decide
 | 2 => decide
 | 3 => decide
 | j + 4 => show In 0 0 18446744073709551615; decide
theorem qa : vW ordW 4 = 7237005577332262213973186563042994240857116359379907606001950938285454250989 := by decide +kernel
def ShI (n : Nat) (g : Nat → Int) (i : Nat) : Prop := Wd g ∧ vW g 9 = vW ordW i * 2 ^ n ∧ (∀ j, n / 64 + i < j → g j = 0) ∧ In (g (n / 64 + i)) 0 (2 ^ (n % 64) - 1)
theorem oY (n : Nat) : ShI n (fun _ => 0) 0 := ⟨fun _ _ => (show In 0 0 18446744073709551615 by decide), by rw [nM]; simp [vW], fun _ _ => rfl, by
  have : (0 : Int) < 2 ^ (n % 64) := Int.pow_pos (by decide)
  show In 0 0 _
  unfold In; omega⟩
theorem lP {x : Int} {s : Nat} (hs : s < 64) (h0 : 0 ≤ x) (h1 : x ≤ 18446744073709551615) : x * 2 ^ s = x * 2 ^ s % 18446744073709551616 + 18446744073709551616 * (x / 2 ^ (64 - s)) ∧ (x * 2 ^ s % 18446744073709551616) % 2 ^ s = 0 ∧ 0 ≤ x / 2 ^ (64 - s) ∧ x / 2 ^ (64 - s) ≤ 2 ^ s - 1 := by
 have hp : (0 : Int) < 2 ^ s := Int.pow_pos (by decide)
 have hr : (0 : Int) < 2 ^ (64 - s) := Int.pow_pos (by decide)
 have e : (18446744073709551616 : Int) = 2 ^ (64 - s) * 2 ^ s := by rw [← Int.pow_add, show 64 - s + s = 64 by omega]; decide
 have d : x * 2 ^ s / 18446744073709551616 = x / 2 ^ (64 - s) := by rw [e, Int.mul_ediv_mul_of_pos_left _ _ hp]
 have hm := Int.emod_add_mul_ediv (x * 2 ^ s) 18446744073709551616
 rw [d] at hm
 refine ⟨by omega, ?_, Int.ediv_nonneg h0 (by omega), ?_⟩
 · have e2 : x * 2 ^ s % 18446744073709551616 = (x - 2 ^ (64 - s) * (x / 2 ^ (64 - s))) * 2 ^ s := by
     rw [Int.sub_mul, Int.mul_assoc, Int.mul_comm (x / 2 ^ (64 - s)), ← Int.mul_assoc, ← e]; omega
   rw [e2]; exact Int.mul_emod_left _ _
 · have : x / 2 ^ (64 - s) < 2 ^ s := Int.ediv_lt_of_lt_mul hr (by rw [Int.mul_comm, ← e]; omega)
   omega
theorem nU {n i : Nat} {g : Nat → Int} {t : Int} (h : ShI n g i) (hn : n ≤ 264) (hi : i < 4) (ht : t = IntKind.u64.wrap (ordW i * 2 ^ (n % 64))) : bits .or .u64 (g (n / 64 + i)) t = g (n / 64 + i) + ordW i * 2 ^ (n % 64) % 18446744073709551616 ∧ g (n / 64 + i) + ordW i * 2 ^ (n % 64) % 18446744073709551616 ≤ 18446744073709551615 := by
 obtain ⟨h1, h2, h3, h4⟩ := h
 have hx := i6 i
 obtain ⟨p1, p2, p3, p4⟩ := lP (s := n % 64) (Nat.mod_lt _ (by decide)) hx.1 hx.2
 have hg := h1 (n / 64 + i) (by omega)
 have hp : (0 : Int) < 2 ^ (n % 64) := Int.pow_pos (by decide)
 have ht2 : t = ordW i * 2 ^ (n % 64) % 18446744073709551616 := by rw [ht]; exact cZ (k := .u64) rfl _
 unfold In at h4 hg
 have hb : (2 : Int) ^ (n % 64) * 2 ^ (64 - n % 64) = 18446744073709551616 := by rw [← Int.pow_add, show n % 64 + (64 - n % 64) = 64 by omega]; decide
 refine ⟨by rw [ht2]; exact jD (n % 64) h4.1 (by omega) (by omega) (by omega) p2 (by omega), ?_⟩
 have hr : (0 : Int) < 2 ^ (64 - n % 64) := Int.pow_pos (by decide)
 have hle : ordW i * 2 ^ (n % 64) % 18446744073709551616 ≤ 18446744073709551616 - 2 ^ (n % 64) := by
   obtain ⟨c, hc⟩ := Int.dvd_of_emod_eq_zero p2
   rw [hc]
   have hlt : 2 ^ (n % 64) * c < 2 ^ (n % 64) * 2 ^ (64 - n % 64) := by rw [hb, ← hc]; omega
   have : c < 2 ^ (64 - n % 64) := Int.lt_of_mul_lt_mul_left hlt (by omega)
   have : 2 ^ (n % 64) * (c + 1) ≤ 2 ^ (n % 64) * 2 ^ (64 - n % 64) := Int.mul_le_mul_of_nonneg_left (by omega) (by omega)
   rw [hb, Int.mul_add, Int.mul_one] at this
   omega
 omega
theorem qE {n i : Nat} : ordW i * 2 ^ (n % 64) * 18446744073709551616 ^ (n / 64 + i) = ordW i * 18446744073709551616 ^ i * 2 ^ n := by
 have e : (2 : Int) ^ n = 2 ^ (n % 64) * 18446744073709551616 ^ (n / 64) := by
   rw [show (18446744073709551616 : Int) = 2 ^ 64 by decide, ← Int.pow_mul, ← Int.pow_add]; congr 1; omega
 rw [e, Int.pow_add]
 generalize (18446744073709551616 : Int) ^ (n / 64) = a
 generalize (18446744073709551616 : Int) ^ i = b
 generalize (2 : Int) ^ (n % 64) = c
 generalize ordW i = x
 grind -lia -linarith
theorem shI_one {n i : Nat} {g : Nat → Int} {t v : Int} (h : ShI n g i) (hn : n ≤ 264) (hi : i < 4) (ht : t = IntKind.u64.wrap (ordW i * 2 ^ (n % 64))) (hv : v = bits .or .u64 (g (n / 64 + i)) t) (hz : n % 64 = 0) : ShI n (upd g (n / 64 + i) v) (i + 1) := by
 obtain ⟨w1, w2⟩ := nU h hn hi ht
 have hx := i6 i
 have hval := qE (n := n) (i := i)
 obtain ⟨h1, h2, h3, h4⟩ := h
 rw [hz] at w1 w2 h4 hval
 rw [Int.pow_zero, Int.mul_one] at w1 w2 hval
 have hg0 : g (n / 64 + i) = 0 := by unfold In at h4; omega
 have hm : ordW i % 18446744073709551616 = ordW i := Int.emod_eq_of_lt hx.1 (by have := hx.2; omega)
 rw [hg0, hm, Int.zero_add] at w1
 have hv2 : v = ordW i := by rw [hv, hg0, w1]
 refine ⟨fun j hj => ?_, ?_, fun j hj => ?_, ?_⟩
 · by_cases e : j = n / 64 + i
   · subst e; rw [bn, hv2]; exact hx
   · rw [av _ _ e]; exact h1 j hj
 · rw [gT _ _ (by omega), h2, hg0, hv2, vW, Int.sub_zero, hval, Int.add_mul]
 · rw [av _ _ (by omega)]; exact h3 j (by omega)
 · rw [av _ _ (by omega), h3 (n / 64 + (i + 1)) (by omega), hz]; decide
theorem shI_two {n i : Nat} {g : Nat → Int} {t v u y : Int} (h : ShI n g i) (hn : n ≤ 264) (hi : i < 4) (ht : t = IntKind.u64.wrap (ordW i * 2 ^ (n % 64))) (hv : v = bits .or .u64 (g (n / 64 + i)) t) (hz : n % 64 ≠ 0) (hy : y = ordW i / 2 ^ (64 - n % 64)) (hu : u = bits .or .u64 (upd g (n / 64 + i) v (n / 64 + i + 1)) y) : ShI n (upd (upd g (n / 64 + i) v) (n / 64 + i + 1) u) (i + 1) := by
 obtain ⟨w1, w2⟩ := nU h hn hi ht
 have hx := i6 i
 have hval := qE (n := n) (i := i)
 obtain ⟨h1, h2, h3, h4⟩ := h
 obtain ⟨p1, p2, p3, p4⟩ := lP (s := n % 64) (Nat.mod_lt _ (by decide)) hx.1 hx.2
 have hg1 : g (n / 64 + i + 1) = 0 := h3 _ (by omega)
 have hple : (2 : Int) ^ (n % 64) ≤ 18446744073709551616 := by
   have : ∀ m : Fin 64, (2 : Int) ^ m.val ≤ 18446744073709551616 := by decide +kernel
   exact this ⟨n % 64, Nat.mod_lt _ (by decide)⟩
 have hu2 : u = ordW i / 2 ^ (64 - n % 64) := by
   rw [hu, av _ _ (by omega), hg1, hy]
   exact nH (k := .u64) (a := 0) (b := 18446744073709551615) rfl (by unfold In; omega) rfl rfl
 have hv2 : v = g (n / 64 + i) + ordW i * 2 ^ (n % 64) % 18446744073709551616 := by rw [hv, w1]
 have hv0 : 0 ≤ v := by
   have := (h1 (n / 64 + i) (by omega)).1
   omega
 refine ⟨fun j hj => ?_, ?_, fun j hj => ?_, ?_⟩
 · by_cases e : j = n / 64 + i + 1
   · subst e; rw [bn, hu2]; unfold In; omega
   · rw [av _ _ e]
     by_cases e2 : j = n / 64 + i
     · subst e2; rw [bn]; unfold In; omega
     · rw [av _ _ e2]; exact h1 j hj
 · rw [gT _ _ (by omega), gT _ _ (by omega), av _ _ (by omega), hg1, h2, hv2, hu2]
   have e1 : vW ordW (i + 1) * 2 ^ n = vW ordW i * 2 ^ n + ordW i * 2 ^ (n % 64) * 18446744073709551616 ^ (n / 64 + i) := by rw [hval, vW, Int.add_mul]
   rw [e1]
   generalize ordW i * 2 ^ (n % 64) = m at p1 ⊢
   have e2 : (18446744073709551616 : Int) ^ (n / 64 + i + 1) = 18446744073709551616 ^ (n / 64 + i) * 18446744073709551616 := Int.pow_succ ..
   rw [e2]
   have e3 : m * 18446744073709551616 ^ (n / 64 + i) = (m % 18446744073709551616 + 18446744073709551616 * (ordW i / 2 ^ (64 - n % 64))) * 18446744073709551616 ^ (n / 64 + i) := by rw [← p1]
   rw [e3]
   clear e1 e2 e3 hval p1 p2 p3 p4 w1 w2 h2 hv2 hu2 hu hv ht
   generalize m % 18446744073709551616 = a
   generalize ordW i / 2 ^ (64 - n % 64) = b
   generalize (18446744073709551616 : Int) ^ (n / 64 + i) = p
   generalize vW ordW i * 2 ^ n = q
   generalize g (n / 64 + i) = r
   grind -lia -linarith
 · rw [av _ _ (by omega), av _ _ (by omega)]; exact h3 j (by omega)
 · rw [show n / 64 + (i + 1) = n / 64 + i + 1 by omega, bn, hu2]; exact ⟨p3, p4⟩
theorem shI_end {n i : Nat} {g : Nat → Int} (h : ShI n g i) (hi : i = 4) : Wd g ∧ vW g 9 = 7237005577332262213973186563042994240857116359379907606001950938285454250989 * 2 ^ n := by
 subst hi; exact ⟨h.1, by rw [h.2.1, qa]⟩
def RestI (f w : Nat → Int) (n : Int) : Prop := Wd w ∧ vW w 9 % 7237005577332262213973186563042994240857116359379907606001950938285454250989 = vW f 9 % 7237005577332262213973186563042994240857116359379907606001950938285454250989 ∧ vW w 9 < 7237005577332262213973186563042994240857116359379907606001950938285454250989 * 2 ^ (n + 1).toNat
theorem oi {f w g l : Nat → Int} {n : Int} (h0 : 0 ≤ n) (h : RestI f w n) (hl : vW l 9 = 7237005577332262213973186563042994240857116359379907606001950938285454250989 * 2 ^ n.toNat) (hw : Wd g) (hg : vW g 9 = vW w 9 - vW l 9) : RestI f g (n - 1) := by
 obtain ⟨_, h2, h3⟩ := h
 rw [show (n + 1).toNat = n.toNat + 1 by omega, Int.pow_succ] at h3
 refine ⟨hw, ?_, ?_⟩
 · rw [hg, hl, ← h2, Int.sub_mul_emod_self_left]
 · rw [hg, hl, show (n - 1 + 1).toNat = n.toNat by omega]
   generalize (2 : Int) ^ n.toNat = p at *
   omega
theorem qO {f w l : Nat → Int} {n : Int} (h0 : 0 ≤ n) (h : RestI f w n) (hl : vW l 9 = 7237005577332262213973186563042994240857116359379907606001950938285454250989 * 2 ^ n.toNat) (hg : ¬ vW l 9 ≤ vW w 9) : RestI f w (n - 1) := by
 obtain ⟨h1, h2, h3⟩ := h
 exact ⟨h1, h2, by rw [show (n - 1 + 1).toNat = n.toNat by omega, ← hl]; omega⟩
theorem ol {f w : Nat → Int} {n : Int} (h : RestI f w n) (h0 : n = -1) : Wd w ∧ vW w 9 = vW f 9 % 7237005577332262213973186563042994240857116359379907606001950938285454250989 := by
 subst h0
 obtain ⟨h1, h2, h3⟩ := h
 have hb := iR (f := w) (n := 9) h1
 have h3 : vW w 9 < 7237005577332262213973186563042994240857116359379907606001950938285454250989 := by simpa using h3
 exact ⟨h1, by omega⟩
def MaI (x y c0 w : Nat → Int) (i : Nat) : Prop := Wd w ∧ vW w 9 = vW c0 9 + vW x i * vW y 5
def MaJ (x y c0 w : Nat → Int) (i k : Nat) (c : Int) : Prop := Wd w ∧ In c 0 18446744073709551615 ∧ vW w 9 + c * 18446744073709551616 ^ (i + k) = vW c0 9 + vW x i * vW y 5 + x i * 18446744073709551616 ^ i * vW y k
theorem pI {x y c0 w : Nat → Int} {i : Nat} (h : MaI x y c0 w i) : MaJ x y c0 w i 0 0 := ⟨h.1, by decide, by rw [h.2]; simp [vW]⟩
theorem ma_sum {a b c d p lo1 v c2 : Int} (ha : In a 0 18446744073709551615) (hb : In b 0 18446744073709551615) (hc : In c 0 18446744073709551615) (hd : In d 0 18446744073709551615) (hp : p = a * b) (h1 : lo1 = (p % 18446744073709551616 + c + 0) % 18446744073709551616) (h2 : v = (d + lo1 + 0) % 18446744073709551616)
   (h3 : c2 = (p / 18446744073709551616 + (p % 18446744073709551616 + c + 0) / 18446744073709551616 + (d + lo1 + 0) / 18446744073709551616) % 18446744073709551616) : v + c2 * 18446744073709551616 = d + c + p ∧ In c2 0 18446744073709551615 ∧ In v 0 18446744073709551615 := by
 have hp0 : 0 ≤ p ∧ p ≤ 18446744073709551615 * 18446744073709551615 := by
   rw [hp]; exact ⟨Int.mul_nonneg ha.1 hb.1, (cN ha hb (by decide) (by decide)).2⟩
 unfold In at *
 omega
theorem qp {x y c0 w : Nat → Int} {i k : Nat} {c v c2 : Int} (h : MaJ x y c0 w i k c) (hik : i + k < 9) (hs : v + c2 * 18446744073709551616 = w (i + k) + c + x i * y k) (hc : In c2 0 18446744073709551615) (hv : In v 0 18446744073709551615) : MaJ x y c0 (upd w (i + k) v) i (k + 1) c2 := by
 obtain ⟨h1, h2, h3⟩ := h
 refine ⟨fun j hj => ?_, hc, ?_⟩
 · by_cases e : j = i + k
   · subst e; rw [bn]; exact hv
   · rw [av _ _ e]; exact h1 j hj
 · have ey : vW y (k + 1) = vW y k + y k * 18446744073709551616 ^ k := rfl
   have e : (18446744073709551616 : Int) ^ (i + k) = 18446744073709551616 ^ i * 18446744073709551616 ^ k := Int.pow_add ..
   have e5 : (18446744073709551616 : Int) ^ (i + k + 1) = 18446744073709551616 ^ i * 18446744073709551616 ^ k * 18446744073709551616 := by rw [Int.pow_succ, e]
   rw [gT _ _ hik, ey, show i + (k + 1) = i + k + 1 by omega, e5, e]
   rw [e] at h3
   clear e e5 ey h1 hc
   generalize (18446744073709551616 : Int) ^ i = p at *
   generalize (18446744073709551616 : Int) ^ k = q at *
   generalize vW w 9 = s at *
   generalize vW c0 9 + vW x i * vW y 5 = r at *
   generalize vW y k = u at *
   generalize w (i + k) = d at *
   generalize x i = a at *
   generalize y k = b at *
   have hv : v = d + c + a * b - c2 * 18446744073709551616 := by omega
   subst hv
   grind -lia -linarith
def MaT (x y c0 w : Nat → Int) (i k : Nat) (c : Int) : Prop := Wd w ∧ In c 0 18446744073709551615 ∧ vW w 9 + c * 18446744073709551616 ^ k = vW c0 9 + vW x (i + 1) * vW y 5
theorem pH {x y c0 w : Nat → Int} {i k : Nat} {c : Int} (h : MaJ x y c0 w i k c) (hk : k = 5) : MaT x y c0 w i (i + 5) c := by
 subst hk
 obtain ⟨h1, h2, h3⟩ := h
 have ex : vW x (i + 1) = vW x i + x i * 18446744073709551616 ^ i := rfl
 exact ⟨h1, h2, by rw [h3, ex, Int.add_mul]; omega⟩
theorem qo {x y c0 w : Nat → Int} {i k : Nat} {c v c2 : Int} (h : MaT x y c0 w i k c) (hk : k < 9) (hv : v = (w k + c + 0) % 18446744073709551616) (hc : c2 = (w k + c + 0) / 18446744073709551616) : MaT x y c0 (upd w k v) i (k + 1) c2 := by
 obtain ⟨h1, h2, h3⟩ := h
 have hw := h1 k hk
 unfold In at h2 hw
 refine ⟨fun j hj => ?_, by unfold In; omega, ?_⟩
 · by_cases e : j = k
   · subst e; rw [bn]; unfold In; omega
   · rw [av _ _ e]; exact h1 j hj
 · rw [gT _ _ hk, ← h3, Int.pow_succ]
   have e : v = w k + c - c2 * 18446744073709551616 := by omega
   rw [e]
   generalize (18446744073709551616 : Int) ^ k = p
   generalize vW w 9 = s
   grind -lia -linarith
theorem maT_end {x y c0 w : Nat → Int} {i k : Nat} {c : Int} (h : MaT x y c0 w i k c) (hk : k ≤ 9) (he : c = 0 ∨ k = 9) (hb : vW c0 9 + vW x (i + 1) * vW y 5 < 18446744073709551616 ^ 9) : MaI x y c0 w (i + 1) := by
 obtain ⟨h1, h2, h3⟩ := h
 have hw := iR (f := w) (n := 9) h1
 have hc : c = 0 := by
   rcases he with h | h
   · exact h
   · subst h
     have hp := powW 9
     unfold In at h2
     rcases Int.lt_or_le 0 c with h4 | h4
     · have : 1 * 18446744073709551616 ^ 9 ≤ c * 18446744073709551616 ^ 9 := Int.mul_le_mul_of_nonneg_right (by omega) (by omega)
       generalize c * 18446744073709551616 ^ 9 = q at *
       omega
     · omega
 subst hc
 exact ⟨h1, by rw [← h3]; simp⟩
theorem pg {f : Nat → Int} (h : ∀ j, 32 ≤ 8 * j → f j = 0) : vW f 5 = vW f 9 ∧ vW f 4 = vW f 9 := by
 have e : ∀ n, vW f (4 + n) = vW f 4 := by
   intro n
   induction n with
   | zero => rfl
   | succ n ih => rw [← Nat.add_assoc, vW, ih, h (4 + n) (by omega)]; simp
 exact ⟨by rw [show 9 = 4 + 5 from rfl, e 5]; exact e 1, (e 5).symm⟩
end Go.Fld
namespace Go.Proofs.YtllmbkmghmmhfaaGreatDoor.W
open Go Go.Eng Go.Byt
open Go.Fld Go.Ed
theorem oQ (x y c : Int) (hx : In x 0 18446744073709551615) (hy : In y 0 18446744073709551615) (hc : In c 0 1) (w : World) :
   (callFunc 97 #[.int .u64 x, .int .u64 y, .int .u64 c]).run Tryz.prog w = .ok (.value (.tuple #[.int .u64 ((x - y - c) % 18446744073709551616), .int .u64 (bif decide (x - y - c < 0) then 1 else 0)])) w := by
 unfold In at hx hy hc
 obtain ⟨a, rfl⟩ := Int.eq_ofNat_of_zero_le hx.1
 obtain ⟨b, rfl⟩ := Int.eq_ofNat_of_zero_le hy.1
 obtain ⟨e, rfl⟩ := Int.eq_ofNat_of_zero_le hc.1
 rw [run_callFunc_extern Tryz.func97 (by kernel_rfl) (by kernel_rfl) (by kernel_rfl) (e := Go.Proofs.sub64Entry) (by kernel_rfl), Go.Proofs.run_sub64 a b e (by omega)]
 simp only [Result.andThen]
 have e1 : (((a + 18446744073709551616 - b - e) % 18446744073709551616 : Nat) : Int) = ((a : Int) - b - e) % 18446744073709551616 := by omega
 have e2 : (((if a < b + e then 1 else 0) : Nat) : Int) = bif decide ((a : Int) - b - e < 0) then 1 else 0 := by
   by_cases h : a < b + e
   · rw [if_pos h, decide_eq_true (by omega)]; rfl
   · rw [if_neg h, decide_eq_false (by omega)]; rfl
 rw [e1, e2]
theorem jg (v : Value) (xs : List UInt8) (w : World) (hv : RdB w v xs) (hx : xs.length ≤ 64) : Rets Tryz.prog 48 [v] w (fun v w' => ∃ g, v = .agg (iv .u64 9 g).toArray ∧ (vW g 9 = leI xs ∧ Wd g ∧ ∀ j, xs.length ≤ 8 * j → g j = 0) ∧ Keep [] w w') := by
 have hB : Keep [] w w := Keep.refl _ _
 refine ac Tryz.func48 rfl (by decide) Tryz.ntmps48 rfl (fun fin _ hfin => a5 (aZ (ad (aj dw) rfl ?_)))
 rintro _ w1 ⟨b1, rfl, eb1, hb1, k1, z1⟩
 have ge_b1 : w.heap.size ≤ b1 := by have := hB.size; omega
 replace hB := hB.trans k1
 clear eb1 z1
 replace hb1 : Bk w1 b1 81 (iv .u64 9 (fun _ => 0)) := by rw [iv, bE]; exact hb1
 refine a6 (a5 (aZ (ad (aj dw) rfl ?_)))
 rintro _ w2 ⟨b2, rfl, eb2, hb2, k2, z2⟩
 have ge_b2 : w.heap.size ≤ b2 := by have := hB.size; omega
 have ne_b1_b2 : b1 ≠ b2 := by have := hb1.lt; omega
 obtain ⟨hB, hb1⟩ := bL k2 hB hb1
 clear eb2 z2
 replace hb2 : Bk w2 b2 81 (iv .u64 9 (fun _ => 0)) := by rw [iv, bE]; exact hb2
 refine a6 (a5 (a5 (aZ (ogm rfl rfl (a7 (cH aA rfl (by first | assumption | exact Own.rd ‹_› | exact Rd.sD ‹_› hB | exact Own.rd (Own.sD ‹_› hB))) rfl (ogm rfl rfl (a6 (ab (bT (Γ := Nat × (Nat → Int)) (fun ⟨i, g⟩ => [(2, .pointer (some ⟨b1, 0, none⟩)), (3, .pointer (some ⟨b2, 0, none⟩)), (6, v), (7, .int .i64 (xs.length : Int)), (8, .int .i64 (i : Int))]) (fun ⟨i, g⟩ W => i ≤ xs.length ∧ GetI xs g i ∧ Bk W b1 81 (iv .u64 9 (fun _ => 0)) ∧ Bk W b2 81 (iv .u64 9 g) ∧ Keep [] w W) (fun ⟨i, g⟩ => xs.length - i) ⟨0, _⟩ ⟨rfl, rfl, rfl, rfl, rfl, trivial⟩ (⟨by omega, jI xs, hb1, hb2, hB⟩) ?_)))))))))
 rintro ⟨i, g⟩ w3 ⟨hi, hI, hbx2, hbx3, hB⟩
 refine a9 [(2, .pointer (some ⟨b1, 0, none⟩)), (3, .pointer (some ⟨b2, 0, none⟩)), (6, v), (7, .int .i64 (xs.length : Int)), (8, .int .i64 (i : Int))] ⟨rfl, rfl, rfl, rfl, rfl, trivial⟩ (a5 (aZ (a7 (bg rfl rfl) rfl (a6 (a5 (ba rfl (fun hc1 => ?_) (fun hc1 => ?_)))))))
 ·
  refine ag (a5 (ab (a5 (aZ (ogm rfl rfl (a7 (bk aA cf rfl (by first | assumption | exact Own.rd ‹_› | exact Rd.sD ‹_› hB | exact Own.rd (Own.sD ‹_› hB)) rfl (by omega)) rfl (an (e' := gb xs (i : Int)) (lo := 0) (hi := 255) (dI gg rfl (by first | assumption | exact Own.rd ‹_› | exact Rd.sD ‹_› hB | exact Own.rd (Own.sD ‹_› hB)) (by omega)) (rfl) ((cK xs _)) rfl (fun z3 h1 r1 => oga rfl rfl (oga rfl rfl (a6 (cI 11 mixed (by decide +kernel) (fun w4 k3 => ?_))))))))))))
  obtain ⟨hB, hbx2, hbx3⟩ := cc k3 hB hbx2 hbx3
  refine ao (bb rfl) rfl (ao (er rfl rfl (by omega)) rfl (ao (ar (i / 8) aO af rfl rfl (by omega) (by omega)) rfl (cM (e' := g (i / 8)) (lo := 0) (hi := 18446744073709551615) (ah au rfl hbx3 (bM (by omega))) (rfl) ((hI.2.1 _ (by omega))) rfl (fun z4 h2 r2 => ao (bb rfl) rfl (cM (e' := z3) (lo := 0) (hi := 255) (ef (by rw [aH]; rfl) aM rfl) (ap r1 rfl) (r1) rfl (fun z5 h3 r3 => ao (bb rfl) rfl (ao (fL rfl rfl (by omega)) rfl (ao (fe rfl rfl (by omega)) rfl (ao (js rfl rfl (by constructor <;> (try simp only [IntKind.bits]) <;> omega)) rfl (ao (ee rfl rfl) rfl (cU ?_)))))))))))
  refine a7 (ar (i / 8) aO af rfl rfl (by omega) (by omega)) rfl (ae (cg (v := (bits .or .u64 z4 (IntKind.u64.wrap (z5 * 2 ^ ((8 * ((i : Int) % 8)) : Int).toNat)))) af rfl rfl hbx3 (by omega)) ?_)
  rintro _ w5 ⟨hb3, k4, z6⟩
  replace hbx2 := hbx2.keep k4 (nm ne_b1_b2)
  replace hB := hB.new k4 (nw ge_b2)
  clear z6
  refine a6 (a9 [(2, _), (3, _), (6, _), (7, _), (8, _)] ⟨rfl, rfl, rfl, rfl, rfl, trivial⟩ (bf (aZ (a7 (bo rfl rfl (by omega)) rfl (ogm rfl rfl (a6 (bX (Γ := Nat × (Nat → Int)) ⟨i + 1, _⟩ ⟨rfl, rfl, rfl, rfl, rfl, trivial⟩ (by (try dsimp only); omega) (⟨by omega, lq hI (by omega) (by omega) h2 (by have a := h1; have b := h3; unfold Eqn at *; rw [b, a]) rfl rfl, hbx2, hb3, hB⟩))))))))
 ·
  refine bF rfl (a5 (aZ (a7 (aa (cs' := iv .u64 9 g) j0 dw rfl hbx3 rfl rfl) rfl (ae (bh (vs := iv .u64 9 g) dw rfl rfl rfl ai hbx2 rfl) ?_))))
  rintro _ w6 ⟨hb4, k5, z7⟩
  replace hB := hB.new k5 (nw ge_b1)
  clear z7
  refine a6 (bW hfin Tryz.results48 rfl (ak j0 dw hb4 rfl)  ?_)
  exact ⟨g, rfl, (lr hI (by omega)), hB⟩
theorem gf (v : Value) (xs : List UInt8) (w : World) (hv : RdB w v xs) (hx : xs.length = 32) : Rets Tryz.prog 48 [v] w (fun v w' => ∃ g, v = .agg (iv .u64 9 g).toArray ∧ (vW g 9 = leI xs ∧ Wd g ∧ ∀ j, 32 ≤ 8 * j → g j = 0) ∧ Keep [] w w') := (jg v xs w hv (by omega)).mono fun _ _ ⟨g, h, h2, k⟩ => ⟨g, h, hx ▸ h2, k⟩
theorem lK (f : Nat → Int) (hf : Wd f) (w : World) : Rets Tryz.prog 52 [.agg (iv .u64 9 f).toArray] w (fun v w' => OwnB w' w.heap.size v (leB (vW f 9) 32) ∧ Keep [] w w') := by
 have hB : Keep [] w w := Keep.refl _ _
 refine ac Tryz.func52 rfl (by decide) Tryz.ntmps52 rfl (fun fin _ hfin => a5 (aZ (ad (bZ (cs := iv .u64 9 f) rfl rfl) rfl ?_)))
 rintro _ w1 ⟨b1, rfl, eb1, hb1, k1, z1⟩
 replace hB := hB.trans k1
 clear eb1 z1
 refine oga rfl rfl (a6 (a5 (aZ (ad (rZ aA cf rfl rfl (by omega) (by constructor <;> omega)) rfl ?_))))
 rintro q w5 ⟨o5, _, _, k5, _⟩
 have hsep : ∀ x, x ∈ vblk q → x ≠ b1 := fun x hx => by have h1 := (o5.blk x hx).1; have h2 := hb1.lt; omega
 replace o5 : Own w5 w.heap.size 5 1 q 32 (iv .u8 32 (fun _ => 0)) := by rw [iv, bE]; exact o5.lo hB.size
 obtain ⟨hB, hb1⟩ := bL k5 hB hb1
 refine oga rfl rfl (a6 (a5 (a5 (aZ (ogm rfl rfl (a7 (cH aA rfl (by first | assumption | exact Own.rd ‹_› | exact Rd.sD ‹_› hB | exact Own.rd (Own.sD ‹_› hB))) rfl (ogm rfl rfl (a6 (ab (bT (Γ := Nat × (Nat → Int)) (fun ⟨i, h⟩ => [(1, .pointer (some ⟨b1, 0, none⟩)), (3, q), (7, .int .i64 32), (8, .int .i64 (i : Int))]) (fun ⟨i, h⟩ W => i ≤ 32 ∧ Part (byteN (vW f 9)) (fun _ => 0) h i ∧ Own W w.heap.size 5 1 q 32 (iv .u8 32 h) ∧ Bk W b1 81 (iv .u64 9 f) ∧ Keep [] w W) (fun ⟨i, h⟩ => 32 - i) ⟨0, _⟩ ⟨rfl, rfl, rfl, rfl, trivial⟩ (⟨by decide, eo _ _, o5, hb1, hB⟩) ?_))))))))))
 rintro ⟨i, h⟩ w3 ⟨hi, hP, ox, hbx1, hB⟩
 refine a9 [(1, .pointer (some ⟨b1, 0, none⟩)), (3, q), (7, .int .i64 32), (8, .int .i64 (i : Int))] ⟨rfl, rfl, rfl, rfl, trivial⟩ (a5 (aZ (a7 (bg rfl rfl) rfl (a6 (a5 (ba rfl (fun hc1 => ?_) (fun hc1 => ?_)))))))
 ·
  refine ag (a5 (ab (a5 (aZ (ogm rfl rfl (oga rfl rfl (a6 (aZ (ogm rfl rfl (ogm rfl rfl (ogm rfl rfl (a7 (er rfl rfl (by omega)) rfl (a7 (ar (i / 8) aO af rfl rfl (by omega) (by omega)) rfl (an (e' := f (i / 8)) (lo := 0) (hi := 18446744073709551615) (ah au rfl hbx1 (bM (by omega))) (rfl) ((hf _ (by omega))) rfl (fun z3 h1 r1 => ogm rfl rfl (a7 (fL rfl rfl (by omega)) rfl (a7 (fe rfl rfl (by omega)) rfl (a7 (fb rfl rfl (by constructor <;> (try simp only [IntKind.bits]) <;> omega)) rfl (an (e' := (z3 / 2 ^ ((8 * ((i : Int) % 8)) : Int).toNat) % 256) (lo := 0) (hi := 255) (ef (by rw [aM]; rfl) aH rfl) (cZ rfl _) (In.wk (bY _ (by decide)) rfl) rfl (fun z4 h2 r2 => a7 (bk aA cf rfl (by first | assumption | exact Own.rd ‹_› | exact Rd.sD ‹_› hB | exact Own.rd (Own.sD ‹_› hB)) rfl (by omega)) rfl ?_))))))))))))))))))))
  refine ae (ec (u := .int .u8 z4) cf rfl rfl rfl ox (by rw [cR]; omega)) ?_
  rintro _ w9 ⟨ox2, k9, z9⟩
  rw [show (i : Int).toNat * 1 = i by omega, kY] at ox2
  replace hB := hB.new k9 (fun x hx => .inl (ox.blk x hx).1)
  replace hbx1 := hbx1.keep k9 (fun hm => hsep _ hm rfl)
  refine a6 (a9 [(1, _), (3, _), (7, _), (8, _)] ⟨rfl, rfl, rfl, rfl, trivial⟩ (bf (aZ (a7 (bo rfl rfl (by omega)) rfl (ogm rfl rfl (a6 (bX (Γ := Nat × (Nat → Int)) ⟨i + 1, _⟩ ⟨rfl, rfl, rfl, rfl, trivial⟩ (by (try dsimp only); omega) (⟨by omega, fJ hP (by have a := h1; have b := h2; unfold Eqn at *; rw [b, a, oB hf (by omega)]; rfl), ox2, hbx1, hB⟩))))))))
 ·
  refine bF rfl (a5 (aZ (ogm rfl rfl (oga rfl rfl (a6 (bN hfin Tryz.results52 rfl ?_))))))
  have hc : iv .u8 32 h = bv (leB (vW f 9) 32) := by
   have e := nE 32 (vW f 9) 0
   rw [Int.pow_zero, Int.ediv_one] at e
   rw [e]; exact el (fun j _ hj => hP.1 j (by omega))
  rw [hc] at ox
  exact ⟨by unfold OwnB; rw [eq]; exact ox, hB⟩
theorem ip (a l : Nat → Int) (ha : Wd a) (hl : Wd l) (w : World) : Rets Tryz.prog 65 [.agg (iv .u64 9 a).toArray, .agg (iv .u64 9 l).toArray] w (fun v w' => ∃ g, v = .tuple #[.agg (iv .u64 9 g).toArray, .bool (decide (vW l 9 ≤ vW a 9))] ∧ (Wd g ∧ (vW l 9 ≤ vW a 9 → vW g 9 = vW a 9 - vW l 9)) ∧ Keep [] w w') := by
  have hB : Keep [] w w := Keep.refl _ _
  refine ac Tryz.func65 rfl (by decide) Tryz.ntmps65 rfl (fun fin _ hfin => a5 (aZ (ad (bZ (cs := iv .u64 9 a) rfl rfl) rfl ?_)))
  rintro _ w1 ⟨b1, rfl, eb1, hb1, k1, z1⟩
  have ge_b1 : w.heap.size ≤ b1 := by have := hB.size; omega
  replace hB := hB.trans k1
  clear eb1 z1
  refine ad (bZ (cs := iv .u64 9 l) rfl rfl) rfl ?_
  rintro _ w2 ⟨b2, rfl, eb2, hb2, k2, z2⟩
  have ne_b1_b2 : b1 ≠ b2 := by have := hb1.lt; omega
  obtain ⟨hB, hb1⟩ := bL k2 hB hb1
  clear eb2 z2
  refine ad (aj dw) rfl ?_
  rintro _ w3 ⟨b3, rfl, eb3, hb3, k3, z3⟩
  have ge_b3 : w.heap.size ≤ b3 := by have := hB.size; omega
  have ne_b1_b3 : b1 ≠ b3 := by have := hb1.lt; omega
  obtain ⟨hB, hb1, hb2⟩ := cc k3 hB hb1 hb2
  clear eb3 z3
  replace hb3 : Bk w3 b3 81 (iv .u64 9 (fun _ => 0)) := by rw [iv, bE]; exact hb3
  refine oga rfl rfl (a6 (a5 (aZ (oga rfl rfl (a6 (a5 (a5 (aZ ?_))))))))
  refine ogm rfl rfl (a6 (ab (bT (Γ := Nat × (Nat → Int) × Int) (fun ⟨i, g, c⟩ => [(2, .pointer (some ⟨b1, 0, none⟩)), (3, .pointer (some ⟨b2, 0, none⟩)), (4, .pointer (some ⟨b3, 0, none⟩)), (6, .int .u64 c), (8, .int .i64 (i : Int))]) (fun ⟨i, g, c⟩ W => i ≤ 9 ∧ MinI a l g c i ∧ Bk W b1 81 (iv .u64 9 g) ∧ Bk W b2 81 (iv .u64 9 l) ∧ Bk W b3 81 (iv .u64 9 (fun _ => 0)) ∧ Keep [] w W) (fun ⟨i, g, c⟩ => 9 - i) ⟨0, a, 0⟩ ⟨rfl, rfl, rfl, rfl, rfl, trivial⟩ (⟨by decide, mn l ha, hb1, hb2, hb3, hB⟩) ?_)))
  rintro ⟨i, g, c⟩ w4 ⟨hi, hI, hbx2, hbx3, hbx4, hB⟩
  refine a9 [(2, .pointer (some ⟨b1, 0, none⟩)), (3, .pointer (some ⟨b2, 0, none⟩)), (4, .pointer (some ⟨b3, 0, none⟩)), (6, .int .u64 c), (8, .int .i64 (i : Int))] ⟨rfl, rfl, rfl, rfl, rfl, trivial⟩ (a5 (aZ (a7 (bg rfl rfl) rfl (a6 (a5 (ba rfl (fun hc1 => ?_) (fun hc1 => ?_)))))))
  · -- yes
    refine ag (a5 (ab (a5 (aZ (ogm rfl rfl (oga rfl rfl (a6 (gc 13 [0, 1, 2, 3, 4, 5, 6, 7, 8, 9, 10, 11, 12] [] [] [] (x := 11) rfl mixed [(7, _), (2, _), (3, _), (6, _), (4, _), (8, _)] ⟨rfl, rfl, rfl, rfl, rfl, rfl, trivial⟩ (by decide +kernel) (by decide) (by decide) ?_ (fun x hx => by cases hx) rfl (fun w5 k4 => ?_)))))))))
    · intro q hq; cases hq
    obtain ⟨hB, hbx2, hbx3, hbx4⟩ := dE k4 hB hbx2 hbx3 hbx4
    refine cA 7 rfl rfl rfl rfl rfl (cA 7 rfl rfl rfl rfl rfl (cm 2 13 rfl rfl rfl rfl rfl (fun W' kk => ar (i) aO af rfl rfl (by omega) (by omega)) (dd (e' := g i) (lo := 0) (hi := 18446744073709551615) [(14, _)] rfl rfl ⟨rfl, trivial⟩ rfl (fun W' kk => ah au rfl (Bk.sD hbx2 kk) (bM (by omega))) (rfl) ((hI.2.1 _ (by omega))) (fun z4 h1 r1 => cA 7 rfl rfl rfl rfl rfl (cm 3 16 rfl rfl rfl rfl rfl (fun W' kk => ar (i) aO af rfl rfl (by omega) (by omega)) (dd (e' := l i) (lo := 0) (hi := 18446744073709551615) [(17, _)] rfl rfl ⟨rfl, trivial⟩ rfl (fun W' kk => ah au rfl (Bk.sD hbx3 kk) (bM (by omega))) (rfl) ((hl _ (by omega))) (fun z5 h2 r2 => cA 6 rfl rfl rfl rfl rfl (j6 [(15, _), (18, _), (19, _)] rfl rfl ⟨rfl, rfl, rfl, trivial⟩ rfl (fun W' kk => eV (vs := [_, _, _]) rfl (oQ _ _ _ (In.wk r1 rfl) (In.wk r2 rfl) (In.wk hI.1 rfl))) ?_))))))))
    refine cA 20 rfl rfl rfl rfl rfl (dd (e' := ((z4 - z5 - c) % 18446744073709551616)) (lo := 0) (hi := 18446744073709551615) [(11, _)] rfl rfl ⟨rfl, trivial⟩ rfl (fun W' kk => bJ (vs := [_, _]) rfl rfl) (rfl) (In.wk (bY _ (by decide)) rfl) (fun z6 h3 r3 => dd (e' := (bif decide ((z4 - z5 - c) < 0) then 1 else 0)) (lo := 0) (hi := 1) [(11, _)] rfl rfl ⟨rfl, trivial⟩ rfl (fun W' kk => bJ (vs := [_, _]) rfl rfl) (rfl) (in_bif _) (fun z7 h4 r4 => cm 2 12 rfl rfl rfl rfl rfl (fun W' kk => ar (i) aO af rfl rfl (by omega) (by omega)) (i4 (fun w6 k5 => ?_)))))
    obtain ⟨hB, hbx2, hbx3, hbx4⟩ := dE k5 hB hbx2 hbx3 hbx4
    refine gx (tailx [(21, _), (23, _)] rfl ⟨rfl, rfl, trivial⟩ rfl (cg (v := z6) af rfl rfl hbx2 (by omega)) ?_)
    rintro _ w7 ⟨hb4, k6, z8⟩
    replace hbx3 := hbx3.keep k6 (nm (Ne.symm ne_b1_b2))
    replace hbx4 := hbx4.keep k6 (nm (Ne.symm ne_b1_b3))
    replace hB := hB.new k6 (nw ge_b1)
    clear z8
    refine oga rfl rfl (a6 (a9 [(2, _), (3, _), (6, _), (4, _), (8, _)] ⟨rfl, rfl, rfl, rfl, rfl, trivial⟩ (bf (aZ (a7 (bo rfl rfl (by omega)) rfl (ogm rfl rfl (a6 (bX (Γ := Nat × (Nat → Int) × Int) ⟨i + 1, _, _⟩ ⟨rfl, rfl, rfl, rfl, rfl, trivial⟩ (by (try dsimp only); omega) (⟨by omega, pG hl hI (by omega) h1 h2 h3 h4, hb4, hbx3, hbx4, hB⟩)))))))))
  · -- no
    refine bF rfl (a5 (aZ (a7 (aa (cs' := iv .u64 9 g) j0 dw rfl hbx2 rfl rfl) rfl (ogm rfl rfl (a7 (fW rfl rfl) rfl (ae (bh (vs := iv .u64 9 g) dw rfl rfl rfl ai hbx4 rfl) ?_))))))
    rintro _ w8 ⟨hb5, k7, z9⟩
    replace hB := hB.new k7 (nw ge_b3)
    clear z9
    refine oga rfl rfl (a6 (cQ hfin Tryz.results65 rfl (ak j0 dw hb5 rfl) rfl ?_))
    obtain ⟨e1, e2, e3⟩ := qk ha hl hI (by omega)
    exact ⟨g, by rw [e1], ⟨e2, e3⟩, hB⟩
theorem mO (m : Nat) (hm : m ≤ 264) (w : World) : Rets Tryz.prog 66 [.int .i64 (m : Int)] w (fun v w' => ∃ g, v = .agg (iv .u64 9 g).toArray ∧ (Wd g ∧ vW g 9 = 7237005577332262213973186563042994240857116359379907606001950938285454250989 * 2 ^ m) ∧ Keep [] w w') := by
 have hB : Keep [] w w := Keep.refl _ _
 refine ac Tryz.func66 rfl (by decide) Tryz.ntmps66 rfl (fun fin _ hfin => a5 (aZ (ad (aj dw) rfl ?_)))
 rintro _ w1 ⟨b1, rfl, eb1, hb1, k1, z1⟩
 have ge_b1 : w.heap.size ≤ b1 := by have := hB.size; omega
 replace hB := hB.trans k1
 clear eb1 z1
 replace hb1 : Bk w1 b1 81 (iv .u64 9 (fun _ => 0)) := by rw [iv, bE]; exact hb1
 refine a6 (a5 (aZ (a7 (dk (idx := [0, 1, 2, 3]) (xs := [.const (.int .u64 (6346243789798364141)), .const (.int .u64 (1503914060200516822)), .const (.int .u64 (0)), .const (.int .u64 (1152921504606846976))]) (vs := [_, _, _, _]) (css := [[.int .u64 6346243789798364141], [.int .u64 1503914060200516822], [.int .u64 0], [.int .u64 1152921504606846976]]) (out := [.int .u64 6346243789798364141, .int .u64 1503914060200516822, .int .u64 0, .int .u64 1152921504606846976]) aL af fh (dK 4 1) rfl rfl ⟨rfl, rfl, rfl, rfl, trivial⟩ rfl rfl) rfl (ad (aj fh) rfl ?_))))
 rintro _ w2 ⟨b2, rfl, eb2, hb2, k2, z2⟩
 have ge_b2 : w.heap.size ≤ b2 := by have := hB.size; omega
 have ne_b1_b2 : b1 ≠ b2 := by have := hb1.lt; omega
 obtain ⟨hB, hb1⟩ := bL k2 hB hb1
 clear eb2 z2
 refine ae (bB fh rfl rfl rfl (by simp only [List.forall_mem_cons]; refine ⟨rfl, rfl, rfl, rfl, fun v hv => by cases hv⟩) hb2 rfl) ?_
 rintro _ w3 ⟨hb3, k3, z3⟩
 replace hb1 := hb1.keep k3 (nm ne_b1_b2)
 replace hB := hB.new k3 (nw ge_b2)
 clear z3
 replace hb3 : Bk w3 b2 _ [.int .u64 6346243789798364141, .int .u64 1503914060200516822, .int .u64 0, .int .u64 1152921504606846976] := hb3
 refine a6 (a5 (aZ (ad (aj dw) rfl ?_)))
 rintro _ w4 ⟨b3, rfl, eb3, hb4, k4, z4⟩
 have ge_b3 : w.heap.size ≤ b3 := by have := hB.size; omega
 have ne_b1_b3 : b1 ≠ b3 := by have := hb1.lt; omega
 obtain ⟨hB, hb1, hb3⟩ := cc k4 hB hb1 hb3
 clear eb3 z4
 replace hb4 : Bk w4 b3 81 (iv .u64 9 (fun _ => 0)) := by rw [iv, bE]; exact hb4
 refine a6 (a5 (a5 (aZ (a7 (aa (cs' := [_, _, _, _]) ag128 fh rfl hb3 rfl rfl) rfl (ogm rfl rfl (a6 (ab (bT (Γ := Nat × (Nat → Int)) (fun ⟨i, g⟩ => [(2, .pointer (some ⟨b1, 0, none⟩)), (4, .pointer (some ⟨b3, 0, none⟩)), (0, .int .i64 (m : Int)), (8, .agg (iv .u64 4 ordW).toArray), (9, .int .i64 (i : Int))]) (fun ⟨i, g⟩ W => i ≤ 4 ∧ ShI m g i ∧ Bk W b1 81 (iv .u64 9 (fun _ => 0)) ∧ Bk W b3 81 (iv .u64 9 g) ∧ Keep [] w W) (fun ⟨i, g⟩ => 4 - i) ⟨0, _⟩ ⟨rfl, rfl, rfl, rfl, rfl, trivial⟩ (⟨by decide, oY m, hb1, hb4, hB⟩) ?_))))))))
 rintro ⟨i, g⟩ w5 ⟨hi, hI, hbx2, hbx4, hB⟩
 refine a9 [(2, .pointer (some ⟨b1, 0, none⟩)), (4, .pointer (some ⟨b3, 0, none⟩)), (0, .int .i64 (m : Int)), (8, .agg (iv .u64 4 ordW).toArray), (9, .int .i64 (i : Int))] ⟨rfl, rfl, rfl, rfl, rfl, trivial⟩ (a5 (aZ (a7 (bg rfl rfl) rfl (a6 (a5 (ba rfl (fun hc1 => ?_) (fun hc1 => ?_)))))))
 ·
  refine ag (a5 (ab (a5 (aZ (ogm rfl rfl (an (e' := ordW i) (lo := 0) (hi := 18446744073709551615) (gP aL af au rfl rfl (by omega) (bM (by omega))) (rfl) ((i6 _)) rfl (fun z5 h1 r1 => oga rfl rfl (oga rfl rfl (a6 (a5 (cI 11 mixed (by decide +kernel) (fun w6 k5 => ?_))))))))))))
  obtain ⟨hB, hbx2, hbx4⟩ := cc k5 hB hbx2 hbx4
  refine ao (bb rfl) rfl (ao (bb rfl) rfl (ao (er rfl rfl (by omega)) rfl (ao (bo rfl rfl (by omega)) rfl (ao (ar (m / 64 + i) aO af rfl rfl (by omega) (by omega)) rfl (cM (e' := g (m / 64 + i)) (lo := 0) (hi := 18446744073709551615) (ah au rfl hbx4 (bM (by omega))) (rfl) ((hI.1 _ (by omega))) rfl (fun z6 h2 r2 => ao (bb rfl) rfl (ao (bb rfl) rfl (ao (fL rfl rfl (by omega)) rfl (ao (js rfl rfl (by constructor <;> (try simp only [IntKind.bits]) <;> omega)) rfl (ao (ee rfl rfl) rfl (cU (a7 (ar (m / 64 + i) aO af rfl rfl (by omega) (by omega)) rfl ?_))))))))))))
  refine ae (cg (v := (bits .or .u64 z6 (IntKind.u64.wrap (z5 * 2 ^ (((m : Int) % 64) : Int).toNat)))) af rfl rfl hbx4 (by omega)) ?_
  rintro _ w7 ⟨hb5, k6, z7⟩
  replace hbx2 := hbx2.keep k6 (nm ne_b1_b3)
  replace hB := hB.new k6 (nw ge_b3)
  clear z7
  refine a6 (a9 [(2, _), (4, _), (0, _), (8, _), (9, _), (5, _), (6, _)] ⟨rfl, rfl, rfl, rfl, rfl, rfl, rfl, trivial⟩ (a5 (aZ (ogm rfl rfl (a7 (fL rfl rfl (by omega)) rfl (a7 (mt rfl rfl) rfl (a6 (ba rfl (fun hc2 => ?_) (fun hc2 => ?_)))))))))
  ·
   refine cI 13 mixed (by decide +kernel) (fun w8 k7 => ?_)
   obtain ⟨hB, hbx2, hb5⟩ := cc k7 hB hbx2 hb5
   refine ao (bb rfl) rfl (ao (bb rfl) rfl (ao (er rfl rfl (by omega)) rfl (ao (bo rfl rfl (by omega)) rfl (ao (bo rfl rfl (by omega)) rfl (ao (ar (m / 64 + i + 1) aO af rfl rfl (by omega) (by omega)) rfl (sw_gz (e' := (upd g (m / 64 + i) (bits .or .u64 z6 (IntKind.u64.wrap (z5 * 2 ^ (((m : Int) % 64) : Int).toNat)))) (m / 64 + i + 1)) (ah au rfl hb5 (bM (by omega))) (rfl) rfl (fun z8 h3 => ao (bb rfl) rfl (ao (bb rfl) rfl (ao (fL rfl rfl (by omega)) rfl (ao (cy rfl rfl (by omega)) rfl (ao (fb rfl rfl (by constructor <;> (try simp only [IntKind.bits]) <;> omega)) rfl (ao (ee rfl rfl) rfl ?_))))))))))))
   refine cU (a7 (ar (m / 64 + i + 1) aO af rfl rfl (by omega) (by omega)) rfl (ae (cg (v := (bits .or .u64 z8 (z5 / 2 ^ ((64 - ((m : Int) % 64)) : Int).toNat))) af rfl rfl hb5 (by omega)) ?_))
   rintro _ w9 ⟨hb6, k8, z9⟩
   replace hbx2 := hbx2.keep k8 (nm ne_b1_b3)
   replace hB := hB.new k8 (nw ge_b3)
   clear z9
   refine a6 (a9 [(2, _), (4, _), (0, _), (8, _), (9, _)] ⟨rfl, rfl, rfl, rfl, rfl, trivial⟩ (bf (aZ (a7 (bo rfl rfl (by omega)) rfl (ogm rfl rfl (a6 (bX (Γ := Nat × (Nat → Int)) ⟨i + 1, _⟩ ⟨rfl, rfl, rfl, rfl, rfl, trivial⟩ (by (try dsimp only); omega) (⟨by omega, shI_two (t := (IntKind.u64.wrap (z5 * 2 ^ (((m : Int) % 64) : Int).toNat))) (y := (z5 / 2 ^ ((64 - ((m : Int) % 64)) : Int).toNat)) (v := (bits .or .u64 z6 (IntKind.u64.wrap (z5 * 2 ^ (((m : Int) % 64) : Int).toNat)))) (u := (bits .or .u64 z8 (z5 / 2 ^ ((64 - ((m : Int) % 64)) : Int).toNat))) hI hm (by omega) (by have a := h1; unfold Eqn at a; rw [a, show ((m : Int) % 64).toNat = m % 64 by omega]) (by have a := h2; unfold Eqn at a; rw [a]) (by omega) (by have a := h1; unfold Eqn at a; rw [a, show ((64 - ((m : Int) % 64)) : Int).toNat = 64 - m % 64 by omega]) (by have a := h3; unfold Eqn at a; rw [a]), hbx2, hb6, hB⟩))))))))
  ·
   refine ag (bf (aZ (a7 (bo rfl rfl (by omega)) rfl (ogm rfl rfl (a6 (bX (Γ := Nat × (Nat → Int)) ⟨i + 1, _⟩ ⟨rfl, rfl, rfl, rfl, rfl, trivial⟩ (by (try dsimp only); omega) (⟨by omega, shI_one (t := (IntKind.u64.wrap (z5 * 2 ^ (((m : Int) % 64) : Int).toNat))) (v := (bits .or .u64 z6 (IntKind.u64.wrap (z5 * 2 ^ (((m : Int) % 64) : Int).toNat)))) hI hm (by omega) (by have a := h1; unfold Eqn at a; rw [a, show ((m : Int) % 64).toNat = m % 64 by omega]) (by have a := h2; unfold Eqn at a; rw [a]) (by omega), hbx2, hb5, hB⟩)))))))
 ·
  refine bF rfl (a5 (aZ (a7 (aa (cs' := iv .u64 9 g) j0 dw rfl hbx4 rfl rfl) rfl (ae (bh (vs := iv .u64 9 g) dw rfl rfl rfl ai hbx2 rfl) ?_))))
  rintro _ w10 ⟨hb7, k9, z10⟩
  replace hB := hB.new k9 (nw ge_b1)
  clear z10
  refine a6 (bW hfin Tryz.results66 rfl (ak j0 dw hb7 rfl)  ?_)
  exact ⟨g, rfl, shI_end hI (by omega), hB⟩
theorem io (n : Int) (h0 : 0 ≤ n) (h1 : n ≤ 264) (w : World) : Rets Tryz.prog 66 [.int .i64 n] w (fun v w' => ∃ g, v = .agg (iv .u64 9 g).toArray ∧ (Wd g ∧ vW g 9 = 7237005577332262213973186563042994240857116359379907606001950938285454250989 * 2 ^ n.toNat) ∧ Keep [] w w') := by
  obtain ⟨m, rfl⟩ := Int.eq_ofNat_of_zero_le h0
  exact mO m (by omega) w
theorem jf (f : Nat → Int) (hf : Wd f) (hb : vW f 9 < 7237005577332262213973186563042994240857116359379907606001950938285454250989 * 2 ^ 265) (w : World) : Rets Tryz.prog 51 [.agg (iv .u64 9 f).toArray] w (fun v w' => ∃ g, v = .agg (iv .u64 9 g).toArray ∧ (Wd g ∧ vW g 9 = vW f 9 % 7237005577332262213973186563042994240857116359379907606001950938285454250989) ∧ Keep [] w w') := by
  have hB : Keep [] w w := Keep.refl _ _
  refine ac Tryz.func51 rfl (by decide) Tryz.ntmps51 rfl (fun fin _ hfin => a5 (aZ (ad (bZ (cs := iv .u64 9 f) rfl rfl) rfl ?_)))
  rintro _ w1 ⟨b1, rfl, eb1, hb1, k1, z1⟩
  have ge_b1 : w.heap.size ≤ b1 := by have := hB.size; omega
  replace hB := hB.trans k1
  clear eb1 z1
  refine ad (aj dw) rfl ?_
  rintro _ w2 ⟨b2, rfl, eb2, hb2, k2, z2⟩
  have ge_b2 : w.heap.size ≤ b2 := by have := hB.size; omega
  have ne_b1_b2 : b1 ≠ b2 := by have := hb1.lt; omega
  obtain ⟨hB, hb1⟩ := bL k2 hB hb1
  clear eb2 z2
  replace hb2 : Bk w2 b2 81 (iv .u64 9 (fun _ => 0)) := by rw [iv, bE]; exact hb2
  refine a6 (lF 1 (a5 (lG (a5 (a5 (aZ (oga rfl rfl (a6 ?_))))))))
  refine ab (bT (Γ := Int × (Nat → Int)) (fun ⟨n, g⟩ => [(1, .pointer (some ⟨b1, 0, none⟩)), (2, .pointer (some ⟨b2, 0, none⟩)), (3, .int .i64 n)]) (fun ⟨n, g⟩ W => -1 ≤ n ∧ n ≤ 264 ∧ RestI f g n ∧ Bk W b1 81 (iv .u64 9 g) ∧ Bk W b2 81 (iv .u64 9 (fun _ => 0)) ∧ Keep [] w W) (fun ⟨n, g⟩ => (n + 1).toNat) ⟨264, f⟩ ⟨rfl, rfl, rfl, trivial⟩ (⟨by decide, by decide, ⟨hf, rfl, hb⟩, hb1, hb2, hB⟩) ?_)
  rintro ⟨n, g⟩ w3 ⟨hn0, hn1, hI, hbx1, hbx2, hB⟩
  refine a9 [(1, .pointer (some ⟨b1, 0, none⟩)), (2, .pointer (some ⟨b2, 0, none⟩)), (3, .int .i64 n)] ⟨rfl, rfl, rfl, trivial⟩ ?_
  have hwd := hI.1
  refine a5 (a5 (aZ (ogm rfl rfl (a7 (j7 rfl rfl) rfl (a6 (ba rfl (fun hc1 => ?_) (fun hc1 => ?_)))))))
  · -- yes
    refine ag (a5 (ab (a5 ?_)))
    have gs1 := hB.size
    have lt1 := hbx1.lt
    have lt2 := hbx2.lt
    refine gc 8 [0, 1, 2, 3, 4, 5, 6] [2, 3] [] [(7, 81, List.replicate 9 (.int .u64 0))] (x := 6) rfl mixed [(1, _), (3, _), (2, _), (6, _), (7, _)] ⟨rfl, rfl, rfl, rfl, rfl, trivial⟩ (by decide +kernel) (by decide) (by decide) ?_ (fun x hx => by cases hx) rfl (fun w4 k3 => ?_)
    · simp only [List.forall_mem_cons]; exact ⟨⟨_, _, _, _, _, _, rfl, dw⟩, fun q hq => by cases hq⟩
    obtain ⟨hB, hbx1, hbx2⟩ := cc k3 hB hbx1 hbx2
    refine al 1 rfl rfl rfl rfl (fun W' kk => aa (cs' := iv .u64 9 g) j0 dw rfl (Bk.sD hbx1 kk) rfl rfl) (cA 3 rfl rfl rfl rfl rfl (bm [(12, _)] rfl rfl ⟨rfl, trivial⟩ rfl (fun w6 k5 => ?_)))
    obtain ⟨hB, hbx1, hbx2⟩ := cc k5 hB hbx1 hbx2
    refine (a8 (vs := [_]) rfl (io n (by first | decide | omega) (by first | decide | omega) _)).mono ?_
    rintro _ w5 ⟨hh1, rfl, E1, k4⟩
    refine ⟨k4, nox, ?_⟩
    obtain ⟨hB, hbx1, hbx2⟩ := cc k4 hB hbx1 hbx2
    refine bm [(11, _), (13, _)] rfl rfl ⟨rfl, rfl, trivial⟩ rfl (fun w8 k7 => ?_)
    obtain ⟨hB, hbx1, hbx2⟩ := cc k7 hB hbx1 hbx2
    refine (a8 (vs := [_, _]) rfl (ip _ _ hwd E1.1 _)).mono ?_
    rintro _ w7 ⟨hh2, rfl, E2, k6⟩
    refine ⟨k6, nox, ?_⟩
    obtain ⟨hB, hbx1, hbx2⟩ := cc k6 hB hbx1 hbx2
    refine cA 14 rfl rfl rfl rfl rfl (al 10 rfl rfl rfl rfl (fun W' kk => bJ (vs := [_, _]) rfl rfl) (al 10 rfl rfl rfl rfl (fun W' kk => bJ (vs := [_, _]) rfl rfl) (i4 (fun w9 k8 => ?_))))
    obtain ⟨hB, hbx1, hbx2⟩ := cc k8 hB hbx1 hbx2
    intro b3 eb3 lb1 hb3 ds1 sp1
    have ge_b3 : w.heap.size ≤ b3 := Nat.le_trans gs1 eb3
    have ne_b1_b3 : b1 ≠ b3 := Nat.ne_of_lt (Nat.lt_of_lt_of_le lt1 eb3)
    have ne_b2_b3 : b2 ≠ b3 := Nat.ne_of_lt (Nat.lt_of_lt_of_le lt2 eb3)
    replace hb3 : Bk w9 b3 81 (iv .u64 9 (fun _ => 0)) := by rw [iv, bE]; exact hb3
    refine gx (tailx [(4, _), (15, _)] rfl ⟨rfl, rfl, trivial⟩ rfl (bh (vs := iv .u64 9 hh2) dw rfl rfl rfl ai hb3 rfl) ?_)
    rintro _ w10 ⟨hb4, k9, z3⟩
    replace hbx1 := hbx1.keep k9 (nm ne_b1_b3)
    replace hbx2 := hbx2.keep k9 (nm ne_b2_b3)
    replace hB := hB.new k9 (nw ge_b3)
    clear z3
    refine oga rfl rfl (a6 (a5 (a5 (aZ (ogm rfl rfl (a7 (lv rfl) rfl (a6 (dV rfl (fun hc2 => ?_) (fun hc2 => ?_)))))))))
    · -- yes
      have hd1 := hc2
      try (simp only [Bool.and_eq_true, Bool.or_eq_true, decide_eq_true_eq, Bool.and_eq_false_iff, Bool.or_eq_false_iff, decide_eq_false_iff_not, Bool.not_eq_true', Bool.not_eq_false', Bool.not_eq_true, Bool.not_eq_false, ne_eq, Decidable.not_not] at hd1)
      refine bF rfl (aZ (ogm rfl rfl (a7 (cy rfl rfl (by omega)) rfl (oga rfl rfl (a6 (bX (Γ := Int × (Nat → Int)) ⟨n - 1, _⟩ ⟨rfl, rfl, rfl, trivial⟩ (by (try dsimp only); omega) (⟨by omega, by omega, qO (by omega) hI E1.2 (by simpa using hc2), hbx1, hbx2, hB⟩)))))))
    · -- no
      have hd2 := hc2
      try (simp only [Bool.and_eq_true, Bool.or_eq_true, decide_eq_true_eq, Bool.and_eq_false_iff, Bool.or_eq_false_iff, decide_eq_false_iff_not, Bool.not_eq_true', Bool.not_eq_false', Bool.not_eq_true, Bool.not_eq_false, ne_eq, Decidable.not_not] at hd2)
      refine ag (aZ (a7 (aa (cs' := iv .u64 9 hh2) j0 dw rfl hb4 rfl rfl) rfl (ae (bh (vs := iv .u64 9 hh2) dw rfl rfl rfl ai hbx1 rfl) ?_)))
      rintro _ w11 ⟨hb5, k10, z4⟩
      replace hbx2 := hbx2.keep k10 (nm (Ne.symm ne_b1_b2))
      replace hB := hB.new k10 (nw ge_b1)
      clear z4
      refine a6 (bf (aZ (ogm rfl rfl (a7 (cy rfl rfl (by omega)) rfl (oga rfl rfl (a6 (bX (Γ := Int × (Nat → Int)) ⟨n - 1, _⟩ ⟨rfl, rfl, rfl, trivial⟩ (by (try dsimp only); omega) (⟨by omega, by omega, oi (by omega) hI E1.2 E2.1 (E2.2 (by simpa using hc2)), hb5, hbx2, hB⟩))))))))
  · -- no
    refine bF rfl (a5 (aZ (a7 (aa (cs' := iv .u64 9 g) j0 dw rfl hbx1 rfl rfl) rfl (ae (bh (vs := iv .u64 9 g) dw rfl rfl rfl ai hbx2 rfl) ?_))))
    rintro _ w12 ⟨hb6, k11, z5⟩
    replace hB := hB.new k11 (nw ge_b2)
    clear z5
    refine a6 (bW hfin Tryz.results51 rfl (ak j0 dw hb6 rfl)  ?_)
    exact ⟨g, rfl, ol hI (by omega), hB⟩
theorem nT {xs : List UInt8} (h : xs.length = 32) : 0 ≤ leI xs ∧ leI xs < 115792089237316195423570985008687907853269984665640564039457584007913129639936 := by
 have := dp xs; rw [h] at this; exact this
theorem lN {x : Int} (h : x < 13407807929942597099574024998205846127479365820592393377723561443721764030073546976801874298166903427690031858186486050853753882811946569946433649006084096 * 2) : x < 7237005577332262213973186563042994240857116359379907606001950938285454250989 * 2 ^ 265 := by
 have : (13407807929942597099574024998205846127479365820592393377723561443721764030073546976801874298166903427690031858186486050853753882811946569946433649006084096 * 2 : Int) ≤ 7237005577332262213973186563042994240857116359379907606001950938285454250989 * 2 ^ 265 := by rw [show (265 : Nat) = 200 + 65 from rfl, Int.pow_add]; decide
 omega
theorem qm {x y c0 : Nat → Int} {i : Nat} (hx : Wd x) (hi : i < 4) (hy : 0 ≤ vW y 5 ∧ vW y 5 < 115792089237316195423570985008687907853269984665640564039457584007913129639936) (hc : vW c0 9 < 115792089237316195423570985008687907853269984665640564039457584007913129639936) : vW c0 9 + vW x (i + 1) * vW y 5 < 13407807929942597099574024998205846127479365820592393377723561443721764030073546976801874298166903427690031858186486050853753882811946569946433649006084096 * 2 := by
 have b := iR (f := x) (n := i + 1) (fun j hj => hx j (by omega))
 have hp : (18446744073709551616 : Int) ^ (i + 1) ≤ 115792089237316195423570985008687907853269984665640564039457584007913129639936 := by
   have : ∀ m : Fin 4, (18446744073709551616 : Int) ^ (m.val + 1) ≤ 115792089237316195423570985008687907853269984665640564039457584007913129639936 := by decide +kernel
   exact this ⟨i, hi⟩
 have h1 : vW x (i + 1) * vW y 5 ≤ 115792089237316195423570985008687907853269984665640564039457584007913129639936 * 115792089237316195423570985008687907853269984665640564039457584007913129639936 := Int.mul_le_mul (by omega) (by omega) hy.1 (by decide)
 omega
theorem mP (v1 v2 v3 : Value) (xs ys zs : List UInt8) (w : World) (hv1 : RdB w v1 xs) (hv2 : RdB w v2 ys) (hv3 : RdB w v3 zs) (hx : xs.length = 32) (hy : ys.length = 32) (hz : zs.length = 32) : Rets Tryz.prog 22 [v1, v2, v3] w (fun r w' => ∃ u, r = .tuple #[u, .int .i64 0] ∧ OwnB w' w.heap.size u (leB ((leI zs + leI xs * leI ys) % 7237005577332262213973186563042994240857116359379907606001950938285454250989) 32) ∧ Keep [] w w') := by
 have hB : Keep [] w w := Keep.refl _ _
 refine ac Tryz.func22 rfl (by decide) Tryz.ntmps22 rfl (fun fin _ hfin => a5 (aZ (oga rfl rfl (oga rfl rfl (a6 (a5 (a5 (aZ (ogm rfl rfl (a7 (cH aA rfl (by first | assumption | exact Own.rd ‹_› | exact Rd.sD ‹_› hB | exact Own.rd (Own.sD ‹_› hB))) rfl (a7 (eU rfl rfl) rfl (ogm rfl rfl (d5 (grdT rfl rfl rfl (by simp [hx])) (bb rfl) rfl (d5 (grdT rfl rfl rfl (by simp [hx])) (cH aA rfl (by first | assumption | exact Own.rd ‹_› | exact Rd.sD ‹_› hB | exact Own.rd (Own.sD ‹_› hB))) rfl (d5 (grdT rfl rfl rfl (by simp [hx])) (eU rfl rfl) rfl (a7 (kf rfl (by simp [hx]) rfl) rfl (ogm rfl rfl (d5 (grdT rfl rfl rfl (by simp [hy])) (bb rfl) rfl ?_))))))))))))))))))
 refine d5 (grdT rfl rfl rfl (by simp [hy])) (cH aA rfl (by first | assumption | exact Own.rd ‹_› | exact Rd.sD ‹_› hB | exact Own.rd (Own.sD ‹_› hB))) rfl (d5 (grdT rfl rfl rfl (by simp [hy])) (eU rfl rfl) rfl (a7 (kf rfl (by simp [hy]) rfl) rfl (a6 (a9 [(0, _), (1, _), (2, _), (30, _)] ⟨rfl, rfl, rfl, rfl, trivial⟩ (ck rfl (by omega) (ag (a5 (aZ (ogm rfl rfl (ad (a8 (vs := [_]) rfl (gf _ _ _ (by first | assumption | exact Own.rd ‹_› | exact Rd.sD ‹_› hB | exact Own.rd (Own.sD ‹_› hB)) hx)) rfl ?_))))))))))
 rintro _ w1 ⟨hh1, rfl, E1, k1⟩
 replace hB := hB.trans k1
 refine ogm rfl rfl (ad (a8 (vs := [_]) rfl (gf _ _ _ (by first | assumption | exact Own.rd ‹_› | exact Rd.sD ‹_› hB | exact Own.rd (Own.sD ‹_› hB)) hy)) rfl ?_)
 rintro _ w2 ⟨hh2, rfl, E2, k2⟩
 replace hB := hB.trans k2
 refine ogm rfl rfl (ad (a8 (vs := [_]) rfl (gf _ _ _ (by first | assumption | exact Own.rd ‹_› | exact Rd.sD ‹_› hB | exact Own.rd (Own.sD ‹_› hB)) hz)) rfl ?_)
 rintro _ w3 ⟨hh3, rfl, E3, k3⟩
 replace hB := hB.trans k3
 refine ad (aj dw) rfl ?_
 rintro _ w4 ⟨b1, rfl, eb1, hb1, k4, z1⟩
 have ge_b1 : w.heap.size ≤ b1 := by have := hB.size; omega
 replace hB := hB.trans k4
 clear eb1 z1
 replace hb1 : Bk w4 b1 81 (iv .u64 9 (fun _ => 0)) := by rw [iv, bE]; exact hb1
 refine ad (aj dw) rfl ?_
 rintro _ w5 ⟨b2, rfl, eb2, hb2, k5, z2⟩
 have ge_b2 : w.heap.size ≤ b2 := by have := hB.size; omega
 have ne_b1_b2 : b1 ≠ b2 := by have := hb1.lt; omega
 obtain ⟨hB, hb1⟩ := bL k5 hB hb1
 clear eb2 z2
 replace hb2 : Bk w5 b2 81 (iv .u64 9 (fun _ => 0)) := by rw [iv, bE]; exact hb2
 refine ad (aj dw) rfl ?_
 rintro _ w6 ⟨b3, rfl, eb3, hb3, k6, z3⟩
 have ge_b3 : w.heap.size ≤ b3 := by have := hB.size; omega
 have ne_b1_b3 : b1 ≠ b3 := by have := hb1.lt; omega
 have ne_b2_b3 : b2 ≠ b3 := by have := hb2.lt; omega
 obtain ⟨hB, hb1, hb2⟩ := cc k6 hB hb1 hb2
 clear eb3 z3
 replace hb3 : Bk w6 b3 81 (iv .u64 9 (fun _ => 0)) := by rw [iv, bE]; exact hb3
 refine ae (bh (vs := iv .u64 9 hh1) dw rfl rfl rfl ai hb1 rfl) ?_
 rintro _ w7 ⟨hb4, k7, z4⟩
 replace hb2 := hb2.keep k7 (nm (Ne.symm ne_b1_b2))
 replace hb3 := hb3.keep k7 (nm (Ne.symm ne_b1_b3))
 replace hB := hB.new k7 (nw ge_b1)
 clear z4
 refine ae (bh (vs := iv .u64 9 hh2) dw rfl rfl rfl ai hb2 rfl) ?_
 rintro _ w8 ⟨hb5, k8, z5⟩
 replace hb3 := hb3.keep k8 (nm (Ne.symm ne_b2_b3))
 replace hb4 := hb4.keep k8 (nm ne_b1_b2)
 replace hB := hB.new k8 (nw ge_b2)
 clear z5
 refine ae (bh (vs := iv .u64 9 hh3) dw rfl rfl rfl ai hb3 rfl) ?_
 rintro _ w9 ⟨hb6, k9, z6⟩
 replace hb4 := hb4.keep k9 (nm ne_b1_b3)
 replace hb5 := hb5.keep k9 (nm ne_b2_b3)
 replace hB := hB.new k9 (nw ge_b3)
 clear z6
 refine a6 (a9 [(8, _), (9, _), (10, _)] ⟨rfl, rfl, rfl, trivial⟩ (a5 (a5 (aZ (ogm rfl rfl (a6 (ab ?_)))))))
 have htx := pg (f := hh1) E1.2.2
 have hty := pg (f := hh2) E2.2.2
 have hmb := fun i (hi : i < 4) => qm (x := hh1) (y := hh2) (c0 := hh3) (i := i) E1.2.1 hi (by rw [hty.1, E2.1]; exact nT hy) (by rw [E3.1]; exact (nT hz).2)
 refine bT (Γ := Nat × (Nat → Int)) (fun ⟨i, g⟩ => [(8, .pointer (some ⟨b1, 0, none⟩)), (9, .pointer (some ⟨b2, 0, none⟩)), (10, .pointer (some ⟨b3, 0, none⟩)), (37, .int .i64 (i : Int))]) (fun ⟨i, g⟩ W => i ≤ 4 ∧ MaI hh1 hh2 hh3 g i ∧ Bk W b1 81 (iv .u64 9 hh1) ∧ Bk W b2 81 (iv .u64 9 hh2) ∧ Bk W b3 81 (iv .u64 9 g) ∧ Keep [] w W) (fun ⟨i, g⟩ => 4 - i) ⟨0, _⟩ ⟨rfl, rfl, rfl, rfl, trivial⟩ (⟨by decide, ⟨E3.2.1, by simp [vW]⟩, hb4, hb5, hb6, hB⟩) ?_
 rintro ⟨i, g⟩ w10 ⟨hi, hI, hbx8, hbx9, hbx10, hB⟩
 refine a9 [(8, .pointer (some ⟨b1, 0, none⟩)), (9, .pointer (some ⟨b2, 0, none⟩)), (10, .pointer (some ⟨b3, 0, none⟩)), (37, .int .i64 (i : Int))] ⟨rfl, rfl, rfl, rfl, trivial⟩ (a5 (aZ (a7 (bg rfl rfl) rfl (a6 (a5 (ba rfl (fun hc1 => ?_) (fun hc1 => ?_)))))))
 ·
  refine ag (a5 (ab (a5 (aZ (ogm rfl rfl (oga rfl rfl (a6 (a5 (aZ (oga rfl rfl (a6 (a5 (a5 (aZ (ogm rfl rfl (a6 (ab (bT (Γ := Nat × (Nat → Int) × Int) (fun ⟨k, g2, c⟩ => [(8, .pointer (some ⟨b1, 0, none⟩)), (9, .pointer (some ⟨b2, 0, none⟩)), (10, .pointer (some ⟨b3, 0, none⟩)), (11, .int .i64 (i : Int)), (12, .int .u64 c), (37, .int .i64 (i : Int)), (40, .int .i64 (k : Int))]) (fun ⟨k, g2, c⟩ W => k ≤ 5 ∧ MaJ hh1 hh2 hh3 g2 i k c ∧ Bk W b1 81 (iv .u64 9 hh1) ∧ Bk W b2 81 (iv .u64 9 hh2) ∧ Bk W b3 81 (iv .u64 9 g2) ∧ Keep [] w W) (fun ⟨k, g2, c⟩ => 5 - k) ⟨0, _, 0⟩ ⟨rfl, rfl, rfl, rfl, rfl, rfl, rfl, trivial⟩ (⟨by decide, pI hI, hbx8, hbx9, hbx10, hB⟩) ?_))))))))))))))))))
  rintro ⟨k, g2, c⟩ w11 ⟨hk, hJ, hbx8, hbx9, hbx10, hB⟩
  refine a9 [(8, .pointer (some ⟨b1, 0, none⟩)), (9, .pointer (some ⟨b2, 0, none⟩)), (10, .pointer (some ⟨b3, 0, none⟩)), (11, .int .i64 (i : Int)), (12, .int .u64 c), (37, .int .i64 (i : Int)), (40, .int .i64 (k : Int))] ⟨rfl, rfl, rfl, rfl, rfl, rfl, rfl, trivial⟩ (a5 (aZ (a7 (bg rfl rfl) rfl (a6 (a5 (ba rfl (fun hc2 => ?_) (fun hc2 => ?_)))))))
  ·
   refine ag (a5 (ab (a5 (aZ (ogm rfl rfl (oga rfl rfl (a6 (a5 (eJ mixed (by decide +kernel) (fun w12 k10 => ?_))))))))))
   obtain ⟨hB, hbx8, hbx9, hbx10⟩ := dE k10 hB hbx8 hbx9 hbx10
   refine ao (bb rfl) rfl (ao (ar (i) aO af rfl rfl (by omega) (by omega)) rfl (cM (e' := hh1 i) (lo := 0) (hi := 18446744073709551615) (ah au rfl hbx8 (bM (by omega))) (rfl) ((E1.2.1 _ (by omega))) rfl (fun z7 h1 r1 => ao (bb rfl) rfl (ao (ar (k) aO af rfl rfl (by omega) (by omega)) rfl (cM (e' := hh2 k) (lo := 0) (hi := 18446744073709551615) (ah au rfl hbx9 (bM (by omega))) (rfl) ((E2.2.1 _ (by omega))) rfl (fun z8 h2 r2 => sw_call (vs := [_, _]) rfl (iI _ _ (In.wk r1 rfl) (In.wk r2 rfl) _) rfl (ao (bb rfl) rfl (cM (e' := (z7 * z8 / 18446744073709551616)) (lo := 0) (hi := 18446744073709551614) (bJ (vs := [_, _]) rfl rfl) (rfl) (In.wk (bi (cN r1 r2 (by decide) (by decide)) (by decide)) rfl) rfl (fun z9 h3 r3 => cM (e' := (z7 * z8 % 18446744073709551616)) (lo := 0) (hi := 18446744073709551615) (bJ (vs := [_, _]) rfl rfl) (rfl) (In.wk (bY _ (by decide)) rfl) rfl (fun z10 h4 r4 => ao (fM rfl) rfl (ao (fM rfl) rfl (cU (a6 (a9 [(8, _), (9, _), (10, _), (11, _), (12, _), (37, _), (40, _), (13, _), (14, _), (15, _)] ⟨rfl, rfl, rfl, rfl, rfl, rfl, rfl, rfl, rfl, rfl, trivial⟩ ?_))))))))))))))
   refine a5 (aZ (oga rfl rfl (a6 (a5 (aZ (ogm rfl rfl (ogm rfl rfl (a7 (eV (vs := [_, _, _]) rfl (d9 _ _ _ (In.wk r4 rfl) (In.wk hJ.2.1 rfl) (In.wk (cq 0) rfl))) rfl (ogm rfl rfl (an (e' := ((z10 + c + 0) % 18446744073709551616)) (lo := 0) (hi := 18446744073709551615) (bJ (vs := [_, _]) rfl rfl) (rfl) (In.wk (bY _ (by decide)) rfl) rfl (fun z11 h5 r5 => an (e' := ((z10 + c + 0) / 18446744073709551616)) (lo := 0) (hi := 1) (bJ (vs := [_, _]) rfl rfl) (rfl) (In.wk (bi (aw (aw r4 hJ.2.1) (cq 0)) (by decide)) rfl) rfl (fun z12 h6 r6 => oga rfl rfl (oga rfl rfl (a6 (a5 (aZ (ogm rfl rfl (ogm rfl rfl (an (e' := z9 + z12) (lo := 0) (hi := 18446744073709551615) (ay rfl rfl) (ap (aw r3 r6) rfl) (In.wk (aw r3 r6) rfl) rfl (fun z13 h7 r7 => oga rfl rfl (a6 (a9 [(8, _), (9, _), (10, _), (11, _), (37, _), (40, _), (13, _), (14, _), (15, _)] ⟨rfl, rfl, rfl, rfl, rfl, rfl, rfl, rfl, rfl, trivial⟩ (a5 (aZ (ogm rfl rfl (ogm rfl rfl (a7 (bo rfl rfl (by omega)) rfl (ogm rfl rfl (ogm rfl rfl (a7 (bo rfl rfl (by omega)) rfl ?_))))))))))))))))))))))))))))))
   refine a7 (ar (i + k) aO af rfl rfl (by omega) (by omega)) rfl (an (e' := g2 (i + k)) (lo := 0) (hi := 18446744073709551615) (ah au rfl hbx10 (bM (by omega))) (rfl) ((hJ.1 _ (by omega))) rfl (fun z14 h8 r8 => ogm rfl rfl (a7 (eV (vs := [_, _, _]) rfl (d9 _ _ _ (In.wk r8 rfl) (In.wk r5 rfl) (In.wk (cq 0) rfl))) rfl (ogm rfl rfl (an (e' := ((z14 + z11 + 0) % 18446744073709551616)) (lo := 0) (hi := 18446744073709551615) (bJ (vs := [_, _]) rfl rfl) (rfl) (In.wk (bY _ (by decide)) rfl) rfl (fun z15 h9 r9 => an (e' := ((z14 + z11 + 0) / 18446744073709551616)) (lo := 0) (hi := 1) (bJ (vs := [_, _]) rfl rfl) (rfl) (In.wk (bi (aw (aw r8 r5) (cq 0)) (by decide)) rfl) rfl (fun z16 h10 r10 => a7 (ar (i + k) aO af rfl rfl (by omega) (by omega)) rfl (ae (cg (v := z15) af rfl rfl hbx10 (by omega)) ?_))))))))
   rintro _ w13 ⟨hb7, k11, z17⟩
   replace hbx8 := hbx8.keep k11 (nm ne_b1_b3)
   replace hbx9 := hbx9.keep k11 (nm ne_b2_b3)
   replace hB := hB.new k11 (nw ge_b3)
   clear z17
   refine oga rfl rfl (a6 (a9 [(8, _), (9, _), (10, _), (11, _), (37, _), (40, _), (14, _), (16, _)] ⟨rfl, rfl, rfl, rfl, rfl, rfl, rfl, rfl, trivial⟩ (aZ (ogm rfl rfl (ogm rfl rfl (an (e' := (z13 + z16) % 18446744073709551616) (lo := 0) (hi := 18446744073709551615) (ay rfl rfl) (cZ rfl _) (In.wk (bY _ (by decide)) rfl) rfl (fun z18 h11 r11 => oga rfl rfl (a6 (bf (aZ (a7 (bo rfl rfl (by omega)) rfl (ogm rfl rfl (a6 ?_)))))))))))))
   have hsum := ma_sum (a := z7) (b := z8) (c := c) (d := z14) (p := z7 * z8) (lo1 := z11) (v := z15) (c2 := z18) r1 r2 hJ.2.1 r8 rfl (by simp only [Eqn] at *; omega) (by simp only [Eqn] at *; omega) (by simp only [Eqn] at *; omega)
   rw [show z7 = _ from h1, show z8 = _ from h2, show z14 = _ from h8] at hsum
   refine bX (Γ := Nat × (Nat → Int) × Int) ⟨k + 1, _, _⟩ ⟨rfl, rfl, rfl, rfl, rfl, rfl, rfl, trivial⟩ (by (try dsimp only); omega) (⟨by omega, qp hJ (by omega) hsum.1 hsum.2.1 hsum.2.2, hbx8, hbx9, hb7, hB⟩)
  ·
   refine bF rfl (a5 (aZ (ogm rfl rfl (a7 (bo rfl rfl (by omega)) rfl (oga rfl rfl (a6 (ab (bT (Γ := Nat × (Nat → Int) × Int) (fun ⟨k3, g3, e⟩ => [(8, .pointer (some ⟨b1, 0, none⟩)), (9, .pointer (some ⟨b2, 0, none⟩)), (10, .pointer (some ⟨b3, 0, none⟩)), (12, .int .u64 e), (17, .int .i64 (k3 : Int)), (37, .int .i64 (i : Int))]) (fun ⟨k3, g3, e⟩ W => k3 ≤ 9 ∧ MaT hh1 hh2 hh3 g3 i k3 e ∧ Bk W b1 81 (iv .u64 9 hh1) ∧ Bk W b2 81 (iv .u64 9 hh2) ∧ Bk W b3 81 (iv .u64 9 g3) ∧ Keep [] w W) (fun ⟨k3, g3, e⟩ => 9 - k3) ⟨i + 5, _, _⟩ ⟨rfl, rfl, rfl, rfl, rfl, rfl, trivial⟩ (⟨by omega, pH hJ (by omega), hbx8, hbx9, hbx10, hB⟩) ?_))))))))
   rintro ⟨k3, g3, e⟩ w14 ⟨hk3, hT, hbx8, hbx9, hbx10, hB⟩
   refine a9 [(8, .pointer (some ⟨b1, 0, none⟩)), (9, .pointer (some ⟨b2, 0, none⟩)), (10, .pointer (some ⟨b3, 0, none⟩)), (12, .int .u64 e), (17, .int .i64 (k3 : Int)), (37, .int .i64 (i : Int))] ⟨rfl, rfl, rfl, rfl, rfl, rfl, trivial⟩ (a5 (a5 (aZ (ogm rfl rfl (a7 (bg rfl rfl) rfl (ogm rfl rfl (gY 84 true rfl (fun c1 hgc1 => de [(12, _)] (dT rfl rfl rfl hgc1) ⟨fS rfl, trivial⟩ (fun hw1 => bb rfl) rfl (de [(85, _)] (dT rfl rfl rfl hgc1) ⟨dU rfl, trivial⟩ (fun hw2 => mt rfl rfl) rfl (a7 (ms rfl rfl hgc1) rfl (a6 (dV rfl (fun hc3 => ?_) (fun hc3 => ?_)))))))))))))
   ·
    have hd1 := hc3
    try (simp only [Bool.and_eq_true, Bool.or_eq_true, decide_eq_true_eq, Bool.and_eq_false_iff, Bool.or_eq_false_iff, decide_eq_false_iff_not, Bool.not_eq_true', Bool.not_eq_false', Bool.not_eq_true, Bool.not_eq_false, ne_eq, Decidable.not_not] at hd1)
    refine ag (a5 (ab (aZ (ogm rfl rfl (ogm rfl rfl (a7 (ar (k3) aO af rfl rfl (by omega) (by omega)) rfl (an (e' := g3 k3) (lo := 0) (hi := 18446744073709551615) (ah au rfl hbx10 (bM (by omega))) (rfl) ((hT.1 _ (by omega))) rfl (fun z19 h12 r12 => ogm rfl rfl (a7 (eV (vs := [_, _, _]) rfl (d9 _ _ _ (In.wk r12 rfl) (In.wk hT.2.1 rfl) (In.wk (cq 0) rfl))) rfl (ogm rfl rfl (an (e' := ((z19 + e + 0) % 18446744073709551616)) (lo := 0) (hi := 18446744073709551615) (bJ (vs := [_, _]) rfl rfl) (rfl) (In.wk (bY _ (by decide)) rfl) rfl (fun z20 h13 r13 => an (e' := ((z19 + e + 0) / 18446744073709551616)) (lo := 0) (hi := 1) (bJ (vs := [_, _]) rfl rfl) (rfl) (In.wk (bi (aw (aw r12 hT.2.1) (cq 0)) (by decide)) rfl) rfl (fun z21 h14 r14 => a7 (ar (k3) aO af rfl rfl (by omega) (by omega)) rfl (ae (cg (v := z20) af rfl rfl hbx10 (by omega)) ?_))))))))))))))
    rintro _ w15 ⟨hb8, k12, z22⟩
    replace hbx8 := hbx8.keep k12 (nm ne_b1_b3)
    replace hbx9 := hbx9.keep k12 (nm ne_b2_b3)
    replace hB := hB.new k12 (nw ge_b3)
    clear z22
    refine oga rfl rfl (a6 (a9 [(8, _), (9, _), (10, _), (12, _), (17, _), (37, _)] ⟨rfl, rfl, rfl, rfl, rfl, rfl, trivial⟩ (bf (aZ (ogm rfl rfl (a7 (bo rfl rfl (by omega)) rfl (oga rfl rfl (a6 (bX (Γ := Nat × (Nat → Int) × Int) ⟨k3 + 1, _, _⟩ ⟨rfl, rfl, rfl, rfl, rfl, rfl, trivial⟩ (by (try dsimp only); omega) (⟨by omega, qo hT (by omega) (by have a := h12; have b := h13; unfold Eqn at *; rw [b, a]) (by have a := h12; have b := h14; unfold Eqn at *; rw [b, a]), hbx8, hbx9, hb8, hB⟩))))))))))
   ·
    have hd2 := hc3
    try (simp only [Bool.and_eq_true, Bool.or_eq_true, decide_eq_true_eq, Bool.and_eq_false_iff, Bool.or_eq_false_iff, decide_eq_false_iff_not, Bool.not_eq_true', Bool.not_eq_false', Bool.not_eq_true, Bool.not_eq_false, ne_eq, Decidable.not_not] at hd2)
    refine bF rfl (bf (aZ (a7 (bo rfl rfl (by omega)) rfl (ogm rfl rfl (a6 (bX (Γ := Nat × (Nat → Int)) ⟨i + 1, _⟩ ⟨rfl, rfl, rfl, rfl, trivial⟩ (by (try dsimp only); omega) (⟨by omega, maT_end hT (by omega) (by have := hT.2.1; unfold In at this; omega) (by have := hmb i (by omega); omega), hbx8, hbx9, hbx10, hB⟩)))))))
 ·
  refine bF rfl (a5 (aZ (a7 (aa (cs' := iv .u64 9 g) j0 dw rfl hbx10 rfl rfl) rfl ?_)))
  obtain rfl : i = 4 := by omega
  have hmv : vW g 9 = leI zs + leI xs * leI ys := by
   have e := hI.2
   rw [htx.2, hty.1, E1.1, E2.1, E3.1] at e
   exact e
  refine ad (a8 (vs := [_]) rfl (jf _ hI.1 (lN (by have := hmb 3 (by decide); rw [← hI.2] at this; exact this)) _)) rfl ?_
  rintro _ w16 ⟨hh4, rfl, E4, k13⟩
  replace hB := hB.trans k13
  refine ad (a8 (vs := [_]) rfl (lK _ E4.1 _)) rfl ?_
  rintro v1 w17 ⟨o1, k14⟩
  have gl_o1 := hB.size
  replace hB := hB.trans k14
  refine oga rfl rfl (oga rfl rfl (a6 (dm hfin Tryz.results22 rfl rfl ?_)))
  have e := E4.2
  rw [hmv] at e
  rw [e] at o1
  exact ⟨_, rfl, o1.lo gl_o1, hB⟩
theorem small64 {xs : List UInt8} (h : xs.length ≤ 64) : 0 ≤ leI xs ∧ leI xs < 13407807929942597099574024998205846127479365820592393377723561443721764030073546976801874298166903427690031858186486050853753882811946569946433649006084096 := by
 have := dp xs
 refine ⟨this.1, Int.lt_of_lt_of_le this.2 ?_⟩
 have e : (256 : Int) ^ xs.length ≤ 256 ^ 64 := by
   have e : ((256 ^ xs.length : Nat) : Int) ≤ ((256 ^ 64 : Nat) : Int) := Int.ofNat_le.2 (Nat.pow_le_pow_right (show 0 < 256 by decide) h)
   rw [Int.natCast_pow, Int.natCast_pow] at e; exact e
 exact Int.le_trans e (by decide +kernel)
theorem lJ (v : Value) (xs : List UInt8) (w : World) (hv : RdB w v xs) (hx : xs.length ≤ 64) : Rets Tryz.prog 41 [v] w (fun r w' => ∃ u, r = .tuple #[u, .int .i64 0] ∧ OwnB w' w.heap.size u (leB (leI xs % 7237005577332262213973186563042994240857116359379907606001950938285454250989) 32) ∧ Keep [] w w') := by
 have hB : Keep [] w w := Keep.refl _ _
 refine ac Tryz.func41 rfl (by decide) Tryz.ntmps41 rfl (fun fin _ hfin => a5 (aZ (oga rfl rfl (oga rfl rfl (a6 (a5 (a5 (aZ (ogm rfl rfl (a7 (cH aA rfl (by first | assumption | exact Own.rd ‹_› | exact Rd.sD ‹_› hB | exact Own.rd (Own.sD ‹_› hB))) rfl (a7 (mt rfl rfl) rfl (a6 (ck rfl (by omega) (ag (a5 (aZ (ogm rfl rfl (ad (a8 (vs := [_]) rfl (jg _ _ _ (by first | assumption | exact Own.rd ‹_› | exact Rd.sD ‹_› hB | exact Own.rd (Own.sD ‹_› hB)) hx)) rfl ?_))))))))))))))))))
 rintro _ w1 ⟨hh1, rfl, E1, k1⟩
 replace hB := hB.trans k1
 refine ad (a8 (vs := [_]) rfl (jf _ E1.2.1 (lN (by rw [E1.1]; have := small64 hx; omega)) _)) rfl ?_
 rintro _ w2 ⟨hh2, rfl, E2, k2⟩
 replace hB := hB.trans k2
 refine ad (a8 (vs := [_]) rfl (lK _ E2.1 _)) rfl ?_
 rintro v1 w3 ⟨o1, k3⟩
 have gl_o1 := hB.size
 replace hB := hB.trans k3
 refine oga rfl rfl (oga rfl rfl (a6 (dm hfin Tryz.results41 rfl rfl ?_)))
 have e := E2.2
 rw [E1.1] at e
 rw [e] at o1
 exact ⟨_, rfl, o1.lo gl_o1, hB⟩
theorem mQ (v : Value) (xs : List UInt8) (w : World) (hv : RdB w v xs) : Rets Tryz.prog 26 [v] w (fun r w' => r = .bool (decide (xs.length = 32) && decide (leI xs < 7237005577332262213973186563042994240857116359379907606001950938285454250989)) ∧ Keep [] w w') := by
  have hB : Keep [] w w := Keep.refl _ _
  refine ac Tryz.func26 rfl (by decide) Tryz.ntmps26 rfl (fun fin _ hfin => a5 (aZ (oga rfl rfl (a6 (a5 (a5 (aZ (ogm rfl rfl ?_))))))))
  refine a7 (cH aA rfl (by first | assumption | exact Own.rd (by assumption) | exact Rd.sD (by assumption) hB | exact Own.rd (Own.sD (by assumption) hB))) rfl (a7 (eU rfl rfl) rfl (a6 (ba rfl (fun hc1 => ?_) (fun hc1 => ?_))))
  · -- yes
    refine a5 (aZ (oga rfl rfl (a6 (bN hfin Tryz.results26 rfl ?_))))
    exact ⟨by rw [decide_eq_false (show ¬ (xs.length = 32) from by omega)]; rfl, hB⟩
  · -- no
    refine ag (a5 (aZ (ogm rfl rfl (ad (a8 (vs := [_]) rfl (gf _ _ _ (by first | assumption | exact Own.rd (by assumption) | exact Rd.sD (by assumption) hB | exact Own.rd (Own.sD (by assumption) hB)) (by omega))) rfl ?_))))
    rintro _ w1 ⟨hh1, rfl, E1, k1⟩
    replace hB := hB.trans k1
    refine ad (a8 (vs := [_]) rfl (io 0 (by first | decide | omega) (by first | decide | omega) _)) rfl ?_
    rintro _ w2 ⟨hh2, rfl, E2, k2⟩
    replace hB := hB.trans k2
    refine ad (a8 (vs := [_, _]) rfl (ip _ _ E1.2.1 E2.1 _)) rfl ?_
    rintro _ w3 ⟨hh3, rfl, E3, k3⟩
    replace hB := hB.trans k3
    refine ogm rfl rfl (a7 (bJ (vs := [_, _]) rfl rfl) rfl (a7 (bJ (vs := [_, _]) rfl rfl) rfl (ad (aj dw) rfl ?_)))
    rintro _ w4 ⟨b1, rfl, eb1, hb1, k4, z1⟩
    have ge_b1 : w.heap.size ≤ b1 := by have := hB.size; omega
    replace hB := hB.trans k4
    clear eb1 z1
    replace hb1 : Bk w4 b1 81 (iv .u64 9 (fun _ => 0)) := by rw [iv, bE]; exact hb1
    refine ae (bh (vs := iv .u64 9 hh3) dw rfl rfl rfl ai hb1 rfl) ?_
    rintro _ w5 ⟨hb2, k5, z2⟩
    replace hB := hB.new k5 (nw ge_b1)
    clear z2
    refine oga rfl rfl (a6 (a9 [(4, _)] ⟨rfl, trivial⟩ (a5 (aZ (ogm rfl rfl (a7 (lv rfl) rfl (oga rfl rfl (a6 ?_))))))))
    refine bN hfin Tryz.results26 rfl ?_
    have e1 := E2.2
    rw [show (2 : Int) ^ (0 : Int).toNat = 1 from rfl, Int.mul_one] at e1
    refine ⟨congrArg Value.bool ?_, hB⟩
    rw [e1, E1.1, decide_eq_true (show xs.length = 32 from by omega), Bool.true_and]
    by_cases h : leI xs < 7237005577332262213973186563042994240857116359379907606001950938285454250989
    · rw [decide_eq_true h, decide_eq_false (show ¬ (7237005577332262213973186563042994240857116359379907606001950938285454250989 ≤ leI xs) from by omega)]; rfl
    · rw [decide_eq_false h, decide_eq_true (show 7237005577332262213973186563042994240857116359379907606001950938285454250989 ≤ leI xs from by omega)]; rfl
end Go.Proofs.YtllmbkmghmmhfaaGreatDoor.W
namespace Go.Fld
open Go Go.Eng Go.Ed Go.Byt
def ordL : List Int := [237, 211, 245, 92, 26, 99, 18, 88, 214, 156, 247, 162, 222, 249, 222, 20, 0, 0, 0, 0, 0, 0, 0, 0, 0, 0, 0, 0, 0, 0, 0, 16, 0, 0]
theorem n6 : ∀ (n : Int) (k i : Nat), i < k → (leB n k)[i]? = some (UInt8.ofNat (n / 256 ^ i % 256).toNat)
 | n, 0, i, h => by omega
 | n, k + 1, 0, _ => by simp [leB]
 | n, k + 1, i + 1, h => by
   rw [leB, List.getElem?_cons_succ, n6 (n / 256) k i (by omega), Int.pow_succ, Int.mul_comm, ← Int.ediv_ediv_of_nonneg (by decide)]
end Go.Fld
namespace Go.Proofs.YtllmbkmghmmhfaaGreatDoor.W
open Go Go.Eng Go.Byt
open Go.Fld Go.Ed
end Go.Proofs.YtllmbkmghmmhfaaGreatDoor.W
namespace Go.Proofs.YtllmbkmghmmhfaaGreatDoor.W
open Go Go.Eng Go.Byt
open Go.Sha
def Tabs (w : World) : Prop := Row w ⟨0, 0, none⟩ (iv .u64 8 (wN (KB Hl))) ∧ Row w ⟨1, 0, none⟩ (iv .u64 80 (wN (KB Kl)))
theorem Tabs.keep {S : List Nat} {w w' : World} (h : Tabs w) (k : Keep S w w') (h0 : ∀ x, x ∈ S → 1 < x) : Tabs w' := ⟨h.1.keep k (fun hm => absurd (h0 _ hm) (by decide)), h.2.keep k (fun hm => absurd (h0 _ hm) (by decide))⟩
theorem Tabs.sD {w w' : World} (h : Tabs w) (k : Keep [] w w') : Tabs w' := h.keep k (fun _ hm => by cases hm)
theorem Tabs.cube {w : World} (h : Tabs w) {i : Nat} (hi : i < 80) : w.cell? ⟨1, i, none⟩ = some (.int .u64 (((KB Kl).getD i 0).toNat : Int)) := by
 have := h.2 i _ (bM hi)
 rwa [Addr.add_lit, Nat.zero_add] at this
theorem Tabs.two {w : World} (h : Tabs w) : 1 < w.heap.size := by
 have h1 := World.block_lt_of_cell? _ _ (h.1 0 _ (bM (by decide)))
 have h2 := World.block_lt_of_cell? _ _ (h.2 0 _ (bM (by decide)))
 rw [Addr.add_lit] at h1 h2
 simp only at h1 h2
 omega
theorem ij (x : BitVec 64) (r : Nat) (hr : r ≤ 64) (w : World) : Rets Tryz.prog 123 [.int .u64 ((x).toNat : Int), .int .i64 (r : Int), .int .i64 64] w (fun v w' => v = .int .u64 ((tn x r).toNat : Int) ∧ Keep [] w w') := by
 have hB : Keep [] w w := Keep.refl _ _
 refine ac Tryz.func123 rfl (by decide) Tryz.ntmps123 rfl (fun fin _ hfin => a5 (aZ (oga rfl rfl (a6 (a5 (eJ mixed (by decide +kernel) (fun w1 k1 => ?_)))))))
 replace hB := hB.trans k1
 refine ao (bb rfl) rfl (ao (bb rfl) rfl (ao (eG r rfl rfl rfl hr) rfl (ao (bb rfl) rfl (ao (bb rfl) rfl (ao (bb rfl) rfl (ao (cy rfl rfl (by omega)) rfl (ao (ke (64 - r) rfl rfl (by omega) (by omega)) rfl (ao (nf rfl rfl) rfl (ao (fM rfl) rfl (cU (a6 (a9 [(6, _)] ⟨rfl, trivial⟩ (bN hfin Tryz.results123 rfl ?_)))))))))))))
 exact ⟨rfl, hB⟩
theorem n4 (p : Nat) (x0 x1 x2 x3 x4 x5 x6 x7 x8 x9 x10 x11 x12 x13 x14 x15 x16 x17 x18 x19 x20 : Value) (x : BitVec 64) (a b c : Nat) (ha : a ≤ 64) (hb : b ≤ 64) (hc : c ≤ 64) (w : World) (hbz : Bk w p 133 [.int .i64 64, x0, x1, x2, x3, x4, x5, x6, x7, x8, x9, x10, x11, x12, x13, x14, x15, x16, x17, x18, x19, x20]) : Rets Tryz.prog 117 [.pointer (some ⟨p, 0, none⟩), .int .u64 ((x).toNat : Int), .agg [.int .i64 (a : Int), .int .i64 (b : Int), .int .i64 (c : Int)].toArray] w (fun v w' => v = .int .u64 ((lo (a, b, c) x).toNat : Int) ∧ Keep [] w w') := by
 have hB : Keep [] w w := Keep.refl _ _
 refine ac Tryz.func117 rfl (by decide) Tryz.ntmps117 rfl (fun fin _ hfin => a5 (aZ (ad (bZ (cs := [.int .i64 (a : Int), .int .i64 (b : Int), .int .i64 (c : Int)]) rfl rfl) rfl ?_)))
 rintro _ w1 ⟨b1, rfl, eb1, hb1, k1, z1⟩
 obtain ⟨hB, hbz⟩ := bL k1 hB hbz
 clear eb1 z1
 refine oga rfl rfl (a6 (a5 (bc 24 [0, 1, 2, 3, 4, 5, 6, 7, 9, 10, 11, 12, 13, 14, 15, 16, 19, 20, 21, 22, 8, 17, 18, 23] [8, 17] [] mixed [(1, _), (5, _), (0, _), (6, _)] ⟨rfl, rfl, rfl, rfl, trivial⟩ (by decide +kernel) rfl (fun w2 k2 => ?_))))
 obtain ⟨hB, hbz, hb1⟩ := cc k2 hB hbz hb1
 refine bH 1 rfl rfl rfl rfl rfl (am 5 rfl rfl rfl rfl (fun W' kk => ar 0 aS cj rfl rfl (by omega) (by omega)) (am 8 rfl rfl rfl rfl (fun W' kk => ah dl rfl (Bk.sD hb1 kk) rfl) (bH 0 rfl rfl rfl rfl rfl (am 10 rfl rfl rfl rfl (fun W' kk => ce rfl) (am 11 rfl rfl rfl rfl (fun W' kk => ax 0 aG rfl eQ (by decide) rfl rfl) (am 12 rfl rfl rfl rfl (fun W' kk => ax 0 aJ rfl cj (by decide) rfl rfl) (am 13 rfl rfl rfl rfl (fun W' kk => ah dl rfl (Bk.sD hbz kk) rfl) (bH 1 rfl rfl rfl rfl rfl ?_))))))))
 refine am 5 rfl rfl rfl rfl (fun W' kk => ar 1 aS cj rfl rfl (by omega) (by omega)) (am 17 rfl rfl rfl rfl (fun W' kk => ah dl rfl (Bk.sD hb1 kk) rfl) (bH 0 rfl rfl rfl rfl rfl (am 19 rfl rfl rfl rfl (fun W' kk => ce rfl) (am 20 rfl rfl rfl rfl (fun W' kk => ax 0 aG rfl eQ (by decide) rfl rfl) (am 21 rfl rfl rfl rfl (fun W' kk => ax 0 aJ rfl cj (by decide) rfl rfl) (am 22 rfl rfl rfl rfl (fun W' kk => ah dl rfl (Bk.sD hbz kk) rfl) (bH 1 rfl rfl rfl rfl rfl (am 5 rfl rfl rfl rfl (fun W' kk => ar 2 aS cj rfl rfl (by omega) (by omega)) ?_))))))))
 refine am 27 rfl rfl rfl rfl (fun W' kk => ah dl rfl (Bk.sD hb1 kk) rfl) (cE 26 28 rfl rfl rfl rfl rfl (fun W' kk => eG c rfl rfl rfl hc) (bq [(7, _), (9, _), (14, _)] rfl rfl ⟨rfl, rfl, rfl, trivial⟩ rfl (a8 (vs := [_, _, _]) rfl (ij x a ha _)) ?_))
 rintro _ w3 ⟨rfl, k3⟩
 refine ⟨k3, ?_⟩
 replace hB := hB.trans k3
 refine bq [(16, _), (18, _), (23, _)] rfl rfl ⟨rfl, rfl, rfl, trivial⟩ rfl (a8 (vs := [_, _, _]) rfl (ij x b hb _)) ?_
 rintro _ w4 ⟨rfl, k4⟩
 refine ⟨k4, ?_⟩
 replace hB := hB.trans k4
 refine cE 15 24 rfl rfl rfl rfl rfl (fun W' kk => eT rfl rfl) (cE 25 29 rfl rfl rfl rfl rfl (fun W' kk => eT rfl rfl) (bx (oga rfl rfl (a6 (a9 [(6, _)] ⟨rfl, trivial⟩ (bN hfin Tryz.results117 rfl ?_))))))
 exact ⟨rfl, hB⟩
theorem ln (p : Nat) (x0 x1 x2 x3 x4 x5 x6 x7 x8 x9 x10 x11 x12 x13 x14 x15 x16 x17 x18 x19 x20 : Value) (x : BitVec 64) (a b c : Nat) (ha : a ≤ 64) (hb : b ≤ 64) (hc : c ≤ 64) (w : World) (hbz : Bk w p 133 [.int .i64 64, x0, x1, x2, x3, x4, x5, x6, x7, x8, x9, x10, x11, x12, x13, x14, x15, x16, x17, x18, x19, x20]) : Rets Tryz.prog 118 [.pointer (some ⟨p, 0, none⟩), .int .u64 ((x).toNat : Int), .agg [.int .i64 (a : Int), .int .i64 (b : Int), .int .i64 (c : Int)].toArray] w (fun v w' => v = .int .u64 ((hi (a, b, c) x).toNat : Int) ∧ Keep [] w w') := by
 have hB : Keep [] w w := Keep.refl _ _
 refine ac Tryz.func118 rfl (by decide) Tryz.ntmps118 rfl (fun fin _ hfin => a5 (aZ (ad (bZ (cs := [.int .i64 (a : Int), .int .i64 (b : Int), .int .i64 (c : Int)]) rfl rfl) rfl ?_)))
 rintro _ w1 ⟨b1, rfl, eb1, hb1, k1, z1⟩
 obtain ⟨hB, hbz⟩ := bL k1 hB hbz
 clear eb1 z1
 refine oga rfl rfl (a6 (a5 (bc 29 [0, 1, 2, 3, 4, 5, 6, 7, 9, 10, 11, 12, 13, 14, 15, 16, 19, 20, 21, 22, 23, 24, 25, 26, 8, 17, 18, 27, 28] [8, 17, 27] [] mixed [(1, _), (5, _), (0, _), (6, _)] ⟨rfl, rfl, rfl, rfl, trivial⟩ (by decide +kernel) rfl (fun w2 k2 => ?_))))
 obtain ⟨hB, hbz, hb1⟩ := cc k2 hB hbz hb1
 refine bH 1 rfl rfl rfl rfl rfl (am 5 rfl rfl rfl rfl (fun W' kk => ar 0 aS cj rfl rfl (by omega) (by omega)) (am 8 rfl rfl rfl rfl (fun W' kk => ah dl rfl (Bk.sD hb1 kk) rfl) (bH 0 rfl rfl rfl rfl rfl (am 10 rfl rfl rfl rfl (fun W' kk => ce rfl) (am 11 rfl rfl rfl rfl (fun W' kk => ax 0 aG rfl eQ (by decide) rfl rfl) (am 12 rfl rfl rfl rfl (fun W' kk => ax 0 aJ rfl cj (by decide) rfl rfl) (am 13 rfl rfl rfl rfl (fun W' kk => ah dl rfl (Bk.sD hbz kk) rfl) (bH 1 rfl rfl rfl rfl rfl ?_))))))))
 refine am 5 rfl rfl rfl rfl (fun W' kk => ar 1 aS cj rfl rfl (by omega) (by omega)) (am 17 rfl rfl rfl rfl (fun W' kk => ah dl rfl (Bk.sD hb1 kk) rfl) (bH 0 rfl rfl rfl rfl rfl (am 19 rfl rfl rfl rfl (fun W' kk => ce rfl) (am 20 rfl rfl rfl rfl (fun W' kk => ax 0 aG rfl eQ (by decide) rfl rfl) (am 21 rfl rfl rfl rfl (fun W' kk => ax 0 aJ rfl cj (by decide) rfl rfl) (am 22 rfl rfl rfl rfl (fun W' kk => ah dl rfl (Bk.sD hbz kk) rfl) (bH 1 rfl rfl rfl rfl rfl (am 5 rfl rfl rfl rfl (fun W' kk => ar 2 aS cj rfl rfl (by omega) (by omega)) ?_))))))))
 refine am 27 rfl rfl rfl rfl (fun W' kk => ah dl rfl (Bk.sD hb1 kk) rfl) (bH 0 rfl rfl rfl rfl rfl (am 29 rfl rfl rfl rfl (fun W' kk => ce rfl) (am 30 rfl rfl rfl rfl (fun W' kk => ax 0 aG rfl eQ (by decide) rfl rfl) (am 31 rfl rfl rfl rfl (fun W' kk => ax 0 aJ rfl cj (by decide) rfl rfl) (am 32 rfl rfl rfl rfl (fun W' kk => ah dl rfl (Bk.sD hbz kk) rfl) (bq [(7, _), (9, _), (14, _)] rfl rfl ⟨rfl, rfl, rfl, trivial⟩ rfl (a8 (vs := [_, _, _]) rfl (ij x a ha _)) ?_))))))
 rintro _ w3 ⟨rfl, k3⟩
 refine ⟨k3, ?_⟩
 replace hB := hB.trans k3
 refine bq [(16, _), (18, _), (23, _)] rfl rfl ⟨rfl, rfl, rfl, trivial⟩ rfl (a8 (vs := [_, _, _]) rfl (ij x b hb _)) ?_
 rintro _ w4 ⟨rfl, k4⟩
 refine ⟨k4, ?_⟩
 replace hB := hB.trans k4
 refine cE 15 24 rfl rfl rfl rfl rfl (fun W' kk => eT rfl rfl) (bq [(26, _), (28, _), (33, _)] rfl rfl ⟨rfl, rfl, rfl, trivial⟩ rfl (a8 (vs := [_, _, _]) rfl (ij x c hc _)) ?_)
 rintro _ w5 ⟨rfl, k5⟩
 refine ⟨k5, ?_⟩
 replace hB := hB.trans k5
 refine cE 25 34 rfl rfl rfl rfl rfl (fun W' kk => eT rfl rfl) (bx (oga rfl rfl (a6 (a9 [(6, _)] ⟨rfl, trivial⟩ (bN hfin Tryz.results118 rfl ?_)))))
 exact ⟨rfl, hB⟩
theorem pd (w : World) : Rets Tryz.prog 82 [] w (fun v w' => v = .agg [.int .i64 64, .int .i64 80, .int .i64 1, .int .i64 8, .int .i64 7, .int .i64 19, .int .i64 61, .int .i64 6, .int .i64 28, .int .i64 34, .int .i64 39, .int .i64 14, .int .i64 18, .int .i64 41].toArray ∧ Keep [] w w') := by
 have hB : Keep [] w w := Keep.refl _ _
 refine ac Tryz.func82 rfl (by decide) Tryz.ntmps82 rfl (fun fin _ hfin => a5 (aZ (ad (aj eQ) rfl ?_)))
 rintro _ w1 ⟨b1, rfl, eb1, hb1, k1, z1⟩
 have ge_b1 : w.heap.size ≤ b1 := by have := hB.size; omega
 replace hB := hB.trans k1
 clear eb1 z1
 refine a6 (a5 (aZ (a7 (dk (idx := [0, 1, 2]) (xs := [.const (.int .i64 (1)), .const (.int .i64 (8)), .const (.int .i64 (7))]) (vs := [_, _, _]) (css := [[.int .i64 1], [.int .i64 8], [.int .i64 7]]) (out := [.int .i64 1, .int .i64 8, .int .i64 7]) aS cj fa (dK 3 1) rfl rfl ⟨rfl, rfl, rfl, trivial⟩ rfl rfl) rfl (a7 (dk (idx := [0, 1, 2]) (xs := [.const (.int .i64 (19)), .const (.int .i64 (61)), .const (.int .i64 (6))]) (vs := [_, _, _]) (css := [[.int .i64 19], [.int .i64 61], [.int .i64 6]]) (out := [.int .i64 19, .int .i64 61, .int .i64 6]) aS cj fa (dK 3 1) rfl rfl ⟨rfl, rfl, rfl, trivial⟩ rfl rfl) rfl (a7 (dk (idx := [0, 1, 2]) (xs := [.const (.int .i64 (28)), .const (.int .i64 (34)), .const (.int .i64 (39))]) (vs := [_, _, _]) (css := [[.int .i64 28], [.int .i64 34], [.int .i64 39]]) (out := [.int .i64 28, .int .i64 34, .int .i64 39]) aS cj fa (dK 3 1) rfl rfl ⟨rfl, rfl, rfl, trivial⟩ rfl rfl) rfl (a7 (dk (idx := [0, 1, 2]) (xs := [.const (.int .i64 (14)), .const (.int .i64 (18)), .const (.int .i64 (41))]) (vs := [_, _, _]) (css := [[.int .i64 14], [.int .i64 18], [.int .i64 41]]) (out := [.int .i64 14, .int .i64 18, .int .i64 41]) aS cj fa (dK 3 1) rfl rfl ⟨rfl, rfl, rfl, trivial⟩ rfl rfl) rfl ?_))))))
 refine a7 (dJ (idx := [0, 1, 2, 3, 4, 5]) (xs := [.const (.int .i64 (64)), .const (.int .i64 (80)), .tmp 1, .tmp 2, .tmp 3, .tmp 4]) (vs := [_, _, _, _, _, _]) (css := [[_], [_], [_, _, _], [_, _, _], [_, _, _], [_, _, _]]) (out := [_, _, _, _, _, _, _, _, _, _, _, _, _, _]) pl113 eQ rfl rfl ⟨rfl, rfl, rfl, rfl, rfl, rfl, trivial⟩ rfl rfl) rfl (ae (bB eQ rfl rfl rfl (by simp only [List.forall_mem_cons]; refine ⟨rfl, rfl, rfl, rfl, rfl, rfl, rfl, rfl, rfl, rfl, rfl, rfl, rfl, rfl, fun v hv => by cases hv⟩) hb1 rfl) ?_)
 rintro _ w2 ⟨hb2, k2, z2⟩
 replace hB := hB.new k2 (nw ge_b1)
 clear z2
 replace hb2 : Bk w2 b1 _ [.int .i64 64, .int .i64 80, .int .i64 1, .int .i64 8, .int .i64 7, .int .i64 19, .int .i64 61, .int .i64 6, .int .i64 28, .int .i64 34, .int .i64 39, .int .i64 14, .int .i64 18, .int .i64 41] := hb2
 refine a6 (bW hfin Tryz.results82 rfl (ak ry eQ hb2 rfl)  ?_)
 exact ⟨rfl, hB⟩
theorem kT (w : World) (hT : Tabs w) : Rets Tryz.prog 101 [.agg [.int .i64 64, .int .i64 80, .int .i64 1, .int .i64 8, .int .i64 7, .int .i64 19, .int .i64 61, .int .i64 6, .int .i64 28, .int .i64 34, .int .i64 39, .int .i64 14, .int .i64 18, .int .i64 41].toArray] w (fun v w' => v = .agg [.int .i64 64, .int .i64 80, .int .i64 1, .int .i64 8, .int .i64 7, .int .i64 19, .int .i64 61, .int .i64 6, .int .i64 28, .int .i64 34, .int .i64 39, .int .i64 14, .int .i64 18, .int .i64 41, .int .u64 ((cst 64 Hl 0).toNat : Int), .int .u64 ((cst 64 Hl 1).toNat : Int), .int .u64 ((cst 64 Hl 2).toNat : Int), .int .u64 ((cst 64 Hl 3).toNat : Int), .int .u64 ((cst 64 Hl 4).toNat : Int), .int .u64 ((cst 64 Hl 5).toNat : Int), .int .u64 ((cst 64 Hl 6).toNat : Int), .int .u64 ((cst 64 Hl 7).toNat : Int)].toArray ∧ Keep [] w w') := by
 have hB : Keep [] w w := Keep.refl _ _
 refine ac Tryz.func101 rfl (by decide) Tryz.ntmps101 rfl (fun fin _ hfin => a5 (aZ (ad (bZ (cs := [.int .i64 64, .int .i64 80, .int .i64 1, .int .i64 8, .int .i64 7, .int .i64 19, .int .i64 61, .int .i64 6, .int .i64 28, .int .i64 34, .int .i64 39, .int .i64 14, .int .i64 18, .int .i64 41]) rfl rfl) rfl ?_)))
 rintro _ w1 ⟨b1, rfl, eb1, hb1, k1, z1⟩
 replace hB := hB.trans k1
 clear eb1 z1
 refine ad (aj ga) rfl ?_
 rintro _ w2 ⟨b2, rfl, eb2, hb2, k2, z2⟩
 have ge_b2 : w.heap.size ≤ b2 := by have := hB.size; omega
 obtain ⟨hB, hb1⟩ := bL k2 hB hb1
 clear eb2 z2
 refine a6 (a5 (aZ (a7 (aa (cs' := [_, _, _, _, _, _, _, _, _, _, _, _, _, _]) ry eQ rfl hb1 rfl rfl) rfl (a7 (dJ (idx := [0]) (xs := [.tmp 6]) (vs := [_]) (css := [[_, _, _, _, _, _, _, _, _, _, _, _, _, _]]) (out := [_, _, _, _, _, _, _, _, _, _, _, _, _, _, _, _, _, _, _, _, _, _]) pl133 ga rfl rfl ⟨rfl, trivial⟩ rfl rfl) rfl (ad (aj ga) rfl ?_)))))
 rintro _ w3 ⟨b3, rfl, eb3, hb3, k3, z3⟩
 have ge_b3 : w.heap.size ≤ b3 := by have := hB.size; omega
 have ne_b1_b3 : b1 ≠ b3 := by have := hb1.lt; omega
 have ne_b2_b3 : b2 ≠ b3 := by have := hb2.lt; omega
 obtain ⟨hB, hb1, hb2⟩ := cc k3 hB hb1 hb2
 clear eb3 z3
 refine ae (bB ga rfl rfl rfl (by simp only [List.forall_mem_cons]; refine ⟨rfl, rfl, rfl, rfl, rfl, rfl, rfl, rfl, rfl, rfl, rfl, rfl, rfl, rfl, rfl, rfl, rfl, rfl, rfl, rfl, rfl, rfl, fun v hv => by cases hv⟩) hb3 rfl) ?_
 rintro _ w4 ⟨hb4, k4, z4⟩
 replace hb1 := hb1.keep k4 (nm ne_b1_b3)
 replace hb2 := hb2.keep k4 (nm ne_b2_b3)
 replace hB := hB.new k4 (nw ge_b3)
 clear z4
 replace hb4 : Bk w4 b3 _ [.int .i64 64, .int .i64 80, .int .i64 1, .int .i64 8, .int .i64 7, .int .i64 19, .int .i64 61, .int .i64 6, .int .i64 28, .int .i64 34, .int .i64 39, .int .i64 14, .int .i64 18, .int .i64 41, .int .u64 0, .int .u64 0, .int .u64 0, .int .u64 0, .int .u64 0, .int .u64 0, .int .u64 0, .int .u64 0] := hb4
 refine a6 (a5 (a5 (aZ (a7 (rF (cs := iv .u64 8 (wN (KB Hl))) rx dA rfl (hT.sD hB).1 (cR _ _ _ _)) rfl (ogm rfl rfl (a6 (ab (d7 9 (a5 (aZ (a7 (bg rfl rfl) rfl (a6 (a5 (bd rfl (by decide) (ag (a5 (ab (a5 (aZ (ogm rfl rfl (a7 (gP (cs := iv .u64 8 (wN (KB Hl))) aD af au rfl rfl (by decide) (bM (by decide))) rfl (oga rfl rfl (oga rfl rfl (a6 (aZ (ogm rfl rfl (ogm rfl rfl (a7 (ax 0 aJ rfl cj (by decide) rfl rfl) rfl (a7 (ah dl rfl hb1 rfl) rfl (a7 (bC (j := 0) (cX rfl rfl) (by decide)) rfl (a7 (eG 0 rfl rfl rfl (by decide)) rfl ?_)))))))))))))))))))))))))))))))
 refine a7 (ax 14 aG rfl dA (by decide) rfl rfl) rfl (a7 (ar (14 + 0) aD af rfl rfl (by omega) (by omega)) rfl (ae (ci af rfl rfl rfl hb4 rfl) ?_))
 rintro _ w5 ⟨hb5, k5, z5⟩
 replace hb1 := hb1.keep k5 (nm ne_b1_b3)
 replace hb2 := hb2.keep k5 (nm ne_b2_b3)
 replace hB := hB.new k5 (nw ge_b3)
 clear z5
 replace hb5 : Bk w5 b3 _ [.int .i64 64, .int .i64 80, .int .i64 1, .int .i64 8, .int .i64 7, .int .i64 19, .int .i64 61, .int .i64 6, .int .i64 28, .int .i64 34, .int .i64 39, .int .i64 14, .int .i64 18, .int .i64 41, .int .u64 ((((KB Hl).getD 0 0) >>> 0).toNat : Int), .int .u64 0, .int .u64 0, .int .u64 0, .int .u64 0, .int .u64 0, .int .u64 0, .int .u64 0] := hb5
 refine a6 (a9 [(1, _), (2, _), (3, _), (8, _), (9, _)] ⟨rfl, rfl, rfl, rfl, rfl, trivial⟩ (bf (aZ (a7 (bC (j := 1) (ay rfl rfl) (by decide)) rfl (ogm rfl rfl (a6 (cF (a5 (aZ (a7 (bg rfl rfl) rfl (a6 (a5 (bd rfl (by decide) (ag (a5 (ab (a5 (aZ (ogm rfl rfl (a7 (gP (cs := iv .u64 8 (wN (KB Hl))) aD af au rfl rfl (by decide) (bM (by decide))) rfl (oga rfl rfl (oga rfl rfl (a6 (aZ (ogm rfl rfl (ogm rfl rfl (a7 (ax 0 aJ rfl cj (by decide) rfl rfl) rfl (a7 (ah dl rfl hb1 rfl) rfl (a7 (bC (j := 0) (cX rfl rfl) (by decide)) rfl (a7 (eG 0 rfl rfl rfl (by decide)) rfl ?_))))))))))))))))))))))))))))))
 refine a7 (ax 14 aG rfl dA (by decide) rfl rfl) rfl (a7 (ar (14 + 1) aD af rfl rfl (by omega) (by omega)) rfl (ae (ci af rfl rfl rfl hb5 rfl) ?_))
 rintro _ w6 ⟨hb6, k6, z6⟩
 replace hb1 := hb1.keep k6 (nm ne_b1_b3)
 replace hb2 := hb2.keep k6 (nm ne_b2_b3)
 replace hB := hB.new k6 (nw ge_b3)
 clear z6
 replace hb6 : Bk w6 b3 _ [.int .i64 64, .int .i64 80, .int .i64 1, .int .i64 8, .int .i64 7, .int .i64 19, .int .i64 61, .int .i64 6, .int .i64 28, .int .i64 34, .int .i64 39, .int .i64 14, .int .i64 18, .int .i64 41, .int .u64 ((((KB Hl).getD 0 0) >>> 0).toNat : Int), .int .u64 ((((KB Hl).getD 1 0) >>> 0).toNat : Int), .int .u64 0, .int .u64 0, .int .u64 0, .int .u64 0, .int .u64 0, .int .u64 0] := hb6
 refine a6 (a9 [(1, _), (2, _), (3, _), (8, _), (9, _)] ⟨rfl, rfl, rfl, rfl, rfl, trivial⟩ (bf (aZ (a7 (bC (j := 2) (ay rfl rfl) (by decide)) rfl (ogm rfl rfl (a6 (cF (a5 (aZ (a7 (bg rfl rfl) rfl (a6 (a5 (bd rfl (by decide) (ag (a5 (ab (a5 (aZ (ogm rfl rfl (a7 (gP (cs := iv .u64 8 (wN (KB Hl))) aD af au rfl rfl (by decide) (bM (by decide))) rfl (oga rfl rfl (oga rfl rfl (a6 (aZ (ogm rfl rfl (ogm rfl rfl (a7 (ax 0 aJ rfl cj (by decide) rfl rfl) rfl (a7 (ah dl rfl hb1 rfl) rfl (a7 (bC (j := 0) (cX rfl rfl) (by decide)) rfl (a7 (eG 0 rfl rfl rfl (by decide)) rfl ?_))))))))))))))))))))))))))))))
 refine a7 (ax 14 aG rfl dA (by decide) rfl rfl) rfl (a7 (ar (14 + 2) aD af rfl rfl (by omega) (by omega)) rfl (ae (ci af rfl rfl rfl hb6 rfl) ?_))
 rintro _ w7 ⟨hb7, k7, z7⟩
 replace hb1 := hb1.keep k7 (nm ne_b1_b3)
 replace hb2 := hb2.keep k7 (nm ne_b2_b3)
 replace hB := hB.new k7 (nw ge_b3)
 clear z7
 replace hb7 : Bk w7 b3 _ [.int .i64 64, .int .i64 80, .int .i64 1, .int .i64 8, .int .i64 7, .int .i64 19, .int .i64 61, .int .i64 6, .int .i64 28, .int .i64 34, .int .i64 39, .int .i64 14, .int .i64 18, .int .i64 41, .int .u64 ((((KB Hl).getD 0 0) >>> 0).toNat : Int), .int .u64 ((((KB Hl).getD 1 0) >>> 0).toNat : Int), .int .u64 ((((KB Hl).getD 2 0) >>> 0).toNat : Int), .int .u64 0, .int .u64 0, .int .u64 0, .int .u64 0, .int .u64 0] := hb7
 refine a6 (a9 [(1, _), (2, _), (3, _), (8, _), (9, _)] ⟨rfl, rfl, rfl, rfl, rfl, trivial⟩ (bf (aZ (a7 (bC (j := 3) (ay rfl rfl) (by decide)) rfl (ogm rfl rfl (a6 (cF (a5 (aZ (a7 (bg rfl rfl) rfl (a6 (a5 (bd rfl (by decide) (ag (a5 (ab (a5 (aZ (ogm rfl rfl (a7 (gP (cs := iv .u64 8 (wN (KB Hl))) aD af au rfl rfl (by decide) (bM (by decide))) rfl (oga rfl rfl (oga rfl rfl (a6 (aZ (ogm rfl rfl (ogm rfl rfl (a7 (ax 0 aJ rfl cj (by decide) rfl rfl) rfl (a7 (ah dl rfl hb1 rfl) rfl (a7 (bC (j := 0) (cX rfl rfl) (by decide)) rfl (a7 (eG 0 rfl rfl rfl (by decide)) rfl ?_))))))))))))))))))))))))))))))
 refine a7 (ax 14 aG rfl dA (by decide) rfl rfl) rfl (a7 (ar (14 + 3) aD af rfl rfl (by omega) (by omega)) rfl (ae (ci af rfl rfl rfl hb7 rfl) ?_))
 rintro _ w8 ⟨hb8, k8, z8⟩
 replace hb1 := hb1.keep k8 (nm ne_b1_b3)
 replace hb2 := hb2.keep k8 (nm ne_b2_b3)
 replace hB := hB.new k8 (nw ge_b3)
 clear z8
 replace hb8 : Bk w8 b3 _ [.int .i64 64, .int .i64 80, .int .i64 1, .int .i64 8, .int .i64 7, .int .i64 19, .int .i64 61, .int .i64 6, .int .i64 28, .int .i64 34, .int .i64 39, .int .i64 14, .int .i64 18, .int .i64 41, .int .u64 ((((KB Hl).getD 0 0) >>> 0).toNat : Int), .int .u64 ((((KB Hl).getD 1 0) >>> 0).toNat : Int), .int .u64 ((((KB Hl).getD 2 0) >>> 0).toNat : Int), .int .u64 ((((KB Hl).getD 3 0) >>> 0).toNat : Int), .int .u64 0, .int .u64 0, .int .u64 0, .int .u64 0] := hb8
 refine a6 (a9 [(1, _), (2, _), (3, _), (8, _), (9, _)] ⟨rfl, rfl, rfl, rfl, rfl, trivial⟩ (bf (aZ (a7 (bC (j := 4) (ay rfl rfl) (by decide)) rfl (ogm rfl rfl (a6 (cF (a5 (aZ (a7 (bg rfl rfl) rfl (a6 (a5 (bd rfl (by decide) (ag (a5 (ab (a5 (aZ (ogm rfl rfl (a7 (gP (cs := iv .u64 8 (wN (KB Hl))) aD af au rfl rfl (by decide) (bM (by decide))) rfl (oga rfl rfl (oga rfl rfl (a6 (aZ (ogm rfl rfl (ogm rfl rfl (a7 (ax 0 aJ rfl cj (by decide) rfl rfl) rfl (a7 (ah dl rfl hb1 rfl) rfl (a7 (bC (j := 0) (cX rfl rfl) (by decide)) rfl (a7 (eG 0 rfl rfl rfl (by decide)) rfl ?_))))))))))))))))))))))))))))))
 refine a7 (ax 14 aG rfl dA (by decide) rfl rfl) rfl (a7 (ar (14 + 4) aD af rfl rfl (by omega) (by omega)) rfl (ae (ci af rfl rfl rfl hb8 rfl) ?_))
 rintro _ w9 ⟨hb9, k9, z9⟩
 replace hb1 := hb1.keep k9 (nm ne_b1_b3)
 replace hb2 := hb2.keep k9 (nm ne_b2_b3)
 replace hB := hB.new k9 (nw ge_b3)
 clear z9
 replace hb9 : Bk w9 b3 _ [.int .i64 64, .int .i64 80, .int .i64 1, .int .i64 8, .int .i64 7, .int .i64 19, .int .i64 61, .int .i64 6, .int .i64 28, .int .i64 34, .int .i64 39, .int .i64 14, .int .i64 18, .int .i64 41, .int .u64 ((((KB Hl).getD 0 0) >>> 0).toNat : Int), .int .u64 ((((KB Hl).getD 1 0) >>> 0).toNat : Int), .int .u64 ((((KB Hl).getD 2 0) >>> 0).toNat : Int), .int .u64 ((((KB Hl).getD 3 0) >>> 0).toNat : Int), .int .u64 ((((KB Hl).getD 4 0) >>> 0).toNat : Int), .int .u64 0, .int .u64 0, .int .u64 0] := hb9
 refine a6 (a9 [(1, _), (2, _), (3, _), (8, _), (9, _)] ⟨rfl, rfl, rfl, rfl, rfl, trivial⟩ (bf (aZ (a7 (bC (j := 5) (ay rfl rfl) (by decide)) rfl (ogm rfl rfl (a6 (cF (a5 (aZ (a7 (bg rfl rfl) rfl (a6 (a5 (bd rfl (by decide) (ag (a5 (ab (a5 (aZ (ogm rfl rfl (a7 (gP (cs := iv .u64 8 (wN (KB Hl))) aD af au rfl rfl (by decide) (bM (by decide))) rfl (oga rfl rfl (oga rfl rfl (a6 (aZ (ogm rfl rfl (ogm rfl rfl (a7 (ax 0 aJ rfl cj (by decide) rfl rfl) rfl (a7 (ah dl rfl hb1 rfl) rfl (a7 (bC (j := 0) (cX rfl rfl) (by decide)) rfl (a7 (eG 0 rfl rfl rfl (by decide)) rfl ?_))))))))))))))))))))))))))))))
 refine a7 (ax 14 aG rfl dA (by decide) rfl rfl) rfl (a7 (ar (14 + 5) aD af rfl rfl (by omega) (by omega)) rfl (ae (ci af rfl rfl rfl hb9 rfl) ?_))
 rintro _ w10 ⟨hb10, k10, z10⟩
 replace hb1 := hb1.keep k10 (nm ne_b1_b3)
 replace hb2 := hb2.keep k10 (nm ne_b2_b3)
 replace hB := hB.new k10 (nw ge_b3)
 clear z10
 replace hb10 : Bk w10 b3 _ [.int .i64 64, .int .i64 80, .int .i64 1, .int .i64 8, .int .i64 7, .int .i64 19, .int .i64 61, .int .i64 6, .int .i64 28, .int .i64 34, .int .i64 39, .int .i64 14, .int .i64 18, .int .i64 41, .int .u64 ((((KB Hl).getD 0 0) >>> 0).toNat : Int), .int .u64 ((((KB Hl).getD 1 0) >>> 0).toNat : Int), .int .u64 ((((KB Hl).getD 2 0) >>> 0).toNat : Int), .int .u64 ((((KB Hl).getD 3 0) >>> 0).toNat : Int), .int .u64 ((((KB Hl).getD 4 0) >>> 0).toNat : Int), .int .u64 ((((KB Hl).getD 5 0) >>> 0).toNat : Int), .int .u64 0, .int .u64 0] := hb10
 refine a6 (a9 [(1, _), (2, _), (3, _), (8, _), (9, _)] ⟨rfl, rfl, rfl, rfl, rfl, trivial⟩ (bf (aZ (a7 (bC (j := 6) (ay rfl rfl) (by decide)) rfl (ogm rfl rfl (a6 (cF (a5 (aZ (a7 (bg rfl rfl) rfl (a6 (a5 (bd rfl (by decide) (ag (a5 (ab (a5 (aZ (ogm rfl rfl (a7 (gP (cs := iv .u64 8 (wN (KB Hl))) aD af au rfl rfl (by decide) (bM (by decide))) rfl (oga rfl rfl (oga rfl rfl (a6 (aZ (ogm rfl rfl (ogm rfl rfl (a7 (ax 0 aJ rfl cj (by decide) rfl rfl) rfl (a7 (ah dl rfl hb1 rfl) rfl (a7 (bC (j := 0) (cX rfl rfl) (by decide)) rfl (a7 (eG 0 rfl rfl rfl (by decide)) rfl ?_))))))))))))))))))))))))))))))
 refine a7 (ax 14 aG rfl dA (by decide) rfl rfl) rfl (a7 (ar (14 + 6) aD af rfl rfl (by omega) (by omega)) rfl (ae (ci af rfl rfl rfl hb10 rfl) ?_))
 rintro _ w11 ⟨hb11, k11, z11⟩
 replace hb1 := hb1.keep k11 (nm ne_b1_b3)
 replace hb2 := hb2.keep k11 (nm ne_b2_b3)
 replace hB := hB.new k11 (nw ge_b3)
 clear z11
 replace hb11 : Bk w11 b3 _ [.int .i64 64, .int .i64 80, .int .i64 1, .int .i64 8, .int .i64 7, .int .i64 19, .int .i64 61, .int .i64 6, .int .i64 28, .int .i64 34, .int .i64 39, .int .i64 14, .int .i64 18, .int .i64 41, .int .u64 ((((KB Hl).getD 0 0) >>> 0).toNat : Int), .int .u64 ((((KB Hl).getD 1 0) >>> 0).toNat : Int), .int .u64 ((((KB Hl).getD 2 0) >>> 0).toNat : Int), .int .u64 ((((KB Hl).getD 3 0) >>> 0).toNat : Int), .int .u64 ((((KB Hl).getD 4 0) >>> 0).toNat : Int), .int .u64 ((((KB Hl).getD 5 0) >>> 0).toNat : Int), .int .u64 ((((KB Hl).getD 6 0) >>> 0).toNat : Int), .int .u64 0] := hb11
 refine a6 (a9 [(1, _), (2, _), (3, _), (8, _), (9, _)] ⟨rfl, rfl, rfl, rfl, rfl, trivial⟩ (bf (aZ (a7 (bC (j := 7) (ay rfl rfl) (by decide)) rfl (ogm rfl rfl (a6 (cF (a5 (aZ (a7 (bg rfl rfl) rfl (a6 (a5 (bd rfl (by decide) (ag (a5 (ab (a5 (aZ (ogm rfl rfl (a7 (gP (cs := iv .u64 8 (wN (KB Hl))) aD af au rfl rfl (by decide) (bM (by decide))) rfl (oga rfl rfl (oga rfl rfl (a6 (aZ (ogm rfl rfl (ogm rfl rfl (a7 (ax 0 aJ rfl cj (by decide) rfl rfl) rfl (a7 (ah dl rfl hb1 rfl) rfl (a7 (bC (j := 0) (cX rfl rfl) (by decide)) rfl (a7 (eG 0 rfl rfl rfl (by decide)) rfl ?_))))))))))))))))))))))))))))))
 refine a7 (ax 14 aG rfl dA (by decide) rfl rfl) rfl (a7 (ar (14 + 7) aD af rfl rfl (by omega) (by omega)) rfl (ae (ci af rfl rfl rfl hb11 rfl) ?_))
 rintro _ w12 ⟨hb12, k12, z12⟩
 replace hb2 := hb2.keep k12 (nm ne_b2_b3)
 replace hB := hB.new k12 (nw ge_b3)
 clear z12
 replace hb12 : Bk w12 b3 _ [.int .i64 64, .int .i64 80, .int .i64 1, .int .i64 8, .int .i64 7, .int .i64 19, .int .i64 61, .int .i64 6, .int .i64 28, .int .i64 34, .int .i64 39, .int .i64 14, .int .i64 18, .int .i64 41, .int .u64 ((((KB Hl).getD 0 0) >>> 0).toNat : Int), .int .u64 ((((KB Hl).getD 1 0) >>> 0).toNat : Int), .int .u64 ((((KB Hl).getD 2 0) >>> 0).toNat : Int), .int .u64 ((((KB Hl).getD 3 0) >>> 0).toNat : Int), .int .u64 ((((KB Hl).getD 4 0) >>> 0).toNat : Int), .int .u64 ((((KB Hl).getD 5 0) >>> 0).toNat : Int), .int .u64 ((((KB Hl).getD 6 0) >>> 0).toNat : Int), .int .u64 ((((KB Hl).getD 7 0) >>> 0).toNat : Int)] := hb12
 refine a6 (a9 [(1, _), (2, _), (3, _), (8, _), (9, _)] ⟨rfl, rfl, rfl, rfl, rfl, trivial⟩ (bf (aZ (a7 (bC (j := 8) (ay rfl rfl) (by decide)) rfl (ogm rfl rfl (a6 (cF (a5 (aZ (a7 (bg rfl rfl) rfl (a6 (a5 (ck rfl (by decide) (bF rfl (a5 (aZ (a7 (aa (cs' := [_, _, _, _, _, _, _, _, _, _, _, _, _, _, _, _, _, _, _, _, _, _]) ag133 ga rfl hb12 rfl rfl) rfl (ae (bB ga rfl rfl rfl (by simp only [List.forall_mem_cons]; refine ⟨rfl, rfl, rfl, rfl, rfl, rfl, rfl, rfl, rfl, rfl, rfl, rfl, rfl, rfl, rfl, rfl, rfl, rfl, rfl, rfl, rfl, rfl, fun v hv => by cases hv⟩) hb2 rfl) ?_))))))))))))))))))
 rintro _ w13 ⟨hb13, k13, z13⟩
 replace hB := hB.new k13 (nw ge_b2)
 clear z13
 replace hb13 : Bk w13 b2 _ [.int .i64 64, .int .i64 80, .int .i64 1, .int .i64 8, .int .i64 7, .int .i64 19, .int .i64 61, .int .i64 6, .int .i64 28, .int .i64 34, .int .i64 39, .int .i64 14, .int .i64 18, .int .i64 41, .int .u64 ((((KB Hl).getD 0 0) >>> 0).toNat : Int), .int .u64 ((((KB Hl).getD 1 0) >>> 0).toNat : Int), .int .u64 ((((KB Hl).getD 2 0) >>> 0).toNat : Int), .int .u64 ((((KB Hl).getD 3 0) >>> 0).toNat : Int), .int .u64 ((((KB Hl).getD 4 0) >>> 0).toNat : Int), .int .u64 ((((KB Hl).getD 5 0) >>> 0).toNat : Int), .int .u64 ((((KB Hl).getD 6 0) >>> 0).toNat : Int), .int .u64 ((((KB Hl).getD 7 0) >>> 0).toNat : Int)] := hb13
 refine a6 (bW hfin Tryz.results101 rfl (ak ag133 ga hb13 rfl)  ?_)
 refine ⟨?_, hB⟩
 rw [← ft Hl 0, ← ft Hl 1, ← ft Hl 2, ← ft Hl 3, ← ft Hl 4, ← ft Hl 5, ← ft Hl 6, ← ft Hl 7]
theorem p5 (p : Nat) (v : Value) (bs : List UInt8) (s : S8 64) (w : World) (hT : Tabs w) (hv : RdB w v bs) (hl : bs.length = 128) (hp : 1 < p) (hnv : ∀ x, x ∈ vblk v → x ∉ [p]) (hbz : Bk w p 133 [.int .i64 64, .int .i64 80, .int .i64 1, .int .i64 8, .int .i64 7, .int .i64 19, .int .i64 61, .int .i64 6, .int .i64 28, .int .i64 34, .int .i64 39, .int .i64 14, .int .i64 18, .int .i64 41, .int .u64 ((s.a).toNat : Int), .int .u64 ((s.b).toNat : Int), .int .u64 ((s.c).toNat : Int), .int .u64 ((s.d).toNat : Int), .int .u64 ((s.e).toNat : Int), .int .u64 ((s.f).toNat : Int), .int .u64 ((s.g).toNat : Int), .int .u64 ((s.h).toNat : Int)]) : Rets Tryz.prog 102 [.pointer (some ⟨p, 0, none⟩), v] w (fun r w' => r = .tuple #[] ∧ Bk w' p 133 [.int .i64 64, .int .i64 80, .int .i64 1, .int .i64 8, .int .i64 7, .int .i64 19, .int .i64 61, .int .i64 6, .int .i64 28, .int .i64 34, .int .i64 39, .int .i64 14, .int .i64 18, .int .i64 41, .int .u64 (((blk cS Kl bs s).a).toNat : Int), .int .u64 (((blk cS Kl bs s).b).toNat : Int), .int .u64 (((blk cS Kl bs s).c).toNat : Int), .int .u64 (((blk cS Kl bs s).d).toNat : Int), .int .u64 (((blk cS Kl bs s).e).toNat : Int), .int .u64 (((blk cS Kl bs s).f).toNat : Int), .int .u64 (((blk cS Kl bs s).g).toNat : Int), .int .u64 (((blk cS Kl bs s).h).toNat : Int)] ∧ Keep [p] w w') := by
  have hB : Keep [p] w w := Keep.refl _ _
  have hcap := hv.vcap
  have hpS : ∀ x, x ∈ [p] → 1 < x := fun x hx => by rw [List.mem_singleton] at hx; omega
  refine ac Tryz.func102 rfl (by decide) Tryz.ntmps102 rfl (fun fin _ hfin => a5 (aZ (ad (aj ty150) rfl ?_)))
  rintro _ w1 ⟨b1, rfl, eb1, hb1, k1, z1⟩
  have ge_b1 : w.heap.size ≤ b1 := by have := hB.size; omega
  have ne_p_b1 : p ≠ b1 := by have := hbz.lt; omega
  replace hbz := hbz.sD k1
  replace hB := hB.trans k1.weak
  clear eb1 z1
  replace hb1 : Bk w1 b1 150 (iv .u64 80 (fun _ => 0)) := by rw [iv, bE]; exact hb1
  refine a6 (a5 (aZ (ogm rfl rfl (a7 (ce rfl) rfl (a7 (ax 0 aG rfl eQ (by decide) rfl rfl) rfl (a7 (ax 0 aJ rfl cj (by decide) rfl rfl) rfl (a7 (ah dl rfl hbz rfl) rfl (a7 (bC (j := 8) (er rfl rfl (by decide)) (by decide)) rfl ?_))))))))
  refine oga rfl rfl (a6 (a5 (a5 (aZ (ogm rfl rfl (a6 (ab ?_)))))))
  rw [← wN_nil (n := 64)] at hb1
  refine bT (Γ := Nat) (fun i => [(0, .pointer (some ⟨p, 0, none⟩)), (1, v), (4, .pointer (some ⟨b1, 0, none⟩)), (5, .int .i64 8), (23, .int .i64 (i : Int))]) (fun i W => i ≤ 16 ∧ Bk W b1 150 (iv .u64 80 (wN ((List.range i).map (wrd 64 bs)))) ∧ Bk W p 133 [.int .i64 64, .int .i64 80, .int .i64 1, .int .i64 8, .int .i64 7, .int .i64 19, .int .i64 61, .int .i64 6, .int .i64 28, .int .i64 34, .int .i64 39, .int .i64 14, .int .i64 18, .int .i64 41, .int .u64 ((s.a).toNat : Int), .int .u64 ((s.b).toNat : Int), .int .u64 ((s.c).toNat : Int), .int .u64 ((s.d).toNat : Int), .int .u64 ((s.e).toNat : Int), .int .u64 ((s.f).toNat : Int), .int .u64 ((s.g).toNat : Int), .int .u64 ((s.h).toNat : Int)] ∧ Keep [p] w W) (fun i => 16 - i) 0 ⟨rfl, rfl, rfl, rfl, rfl, trivial⟩ (⟨by omega, hb1, hbz, hB⟩) ?_
  rintro i w2 ⟨hi0, hbw, hbz, hB⟩
  refine a9 [(0, .pointer (some ⟨p, 0, none⟩)), (1, v), (4, .pointer (some ⟨b1, 0, none⟩)), (5, .int .i64 8), (23, .int .i64 (i : Int))] ⟨rfl, rfl, rfl, rfl, rfl, trivial⟩ (a5 (aZ (a7 (bg rfl rfl) rfl (a6 (a5 (ba rfl (fun hc1 => ?_) (fun hc1 => ?_)))))))
  · -- yes
    refine ag (a5 (ab (a5 (aZ (ogm rfl rfl (oga rfl rfl (a6 (a5 ?_))))))))
    refine aZ (ogm rfl rfl (ogm rfl rfl (ogm rfl rfl (a7 (fe rfl rfl (by omega)) rfl (ogm rfl rfl (ogm rfl rfl (a7 (fe rfl rfl (by omega)) rfl (ogm rfl rfl ?_))))))))
    refine a7 (bo rfl rfl (by omega)) rfl ?_
    have hcu : RdB _ (cut v (8 * i) (8 * i + 8) 1) ((bs.drop (8 * i)).take (8 * i + 8 - 8 * i)) := (hv.keep hB hnv).cutB (by omega) (by omega)
    rw [show 8 * i + 8 - 8 * i = 8 from by omega] at hcu
    have hcl : ((bs.drop (8 * i)).take 8).length = 8 := by rw [List.length_take, List.length_drop]; omega
    refine a7 (cT (v' := cut v (8 * i) (8 * i + 8) 1) (gM aA cf rfl (hv.keep hB hnv) (.inr ⟨_, _, rfl, rfl⟩) (.inr ⟨_, _, rfl, rfl⟩) (by omega)) (by rw [show ((8 : Int) * (i : Int)).toNat = 8 * i from by omega, show ((8 : Int) * (i : Int) + 8).toNat = 8 * i + 8 from by omega])) rfl (a7 (cT (v' := .int .i64 8) (cH aA rfl hcu) (by rw [hcl]; rfl)) rfl (ogm rfl rfl (a6 (a9 [(0, _), (1, _), (4, _), (5, _), (23, _), (6, _), (35, _), (36, _), (37, _)] ⟨rfl, rfl, rfl, rfl, rfl, rfl, rfl, rfl, rfl, trivial⟩ (ab ?_)))))
    have hw0 := nJ ((List.range i).map (wrd 64 bs))
    rw [← hw0] at hbw
    have hwl : ((List.range i).map (wrd 64 bs)).length = i := by simp
    refine bT (Γ := Nat) (fun k => [(0, .pointer (some ⟨p, 0, none⟩)), (1, v), (4, .pointer (some ⟨b1, 0, none⟩)), (5, .int .i64 8), (6, .int .i64 (i : Int)), (23, .int .i64 (i : Int)), (35, (cut v (8 * i) (8 * i + 8) 1)), (36, .int .i64 8), (37, .int .i64 (k : Int))]) (fun k W => k ≤ 8 ∧ Bk W b1 150 (iv .u64 80 (wN (((List.range i).map (wrd 64 bs)) ++ [wrdF 0 (((bs.drop (8 * i)).take 8).take k)]))) ∧ Bk W p 133 [.int .i64 64, .int .i64 80, .int .i64 1, .int .i64 8, .int .i64 7, .int .i64 19, .int .i64 61, .int .i64 6, .int .i64 28, .int .i64 34, .int .i64 39, .int .i64 14, .int .i64 18, .int .i64 41, .int .u64 ((s.a).toNat : Int), .int .u64 ((s.b).toNat : Int), .int .u64 ((s.c).toNat : Int), .int .u64 ((s.d).toNat : Int), .int .u64 ((s.e).toNat : Int), .int .u64 ((s.f).toNat : Int), .int .u64 ((s.g).toNat : Int), .int .u64 ((s.h).toNat : Int)] ∧ Keep [p] w W) (fun k => 8 - k) 0 ⟨rfl, rfl, rfl, rfl, rfl, rfl, rfl, rfl, rfl, trivial⟩ (⟨by omega, hbw, hbz, hB⟩) ?_
    rintro k w3 ⟨hk0, hbw, hbz, hB⟩
    refine a9 [(0, .pointer (some ⟨p, 0, none⟩)), (1, v), (4, .pointer (some ⟨b1, 0, none⟩)), (5, .int .i64 8), (6, .int .i64 (i : Int)), (23, .int .i64 (i : Int)), (35, (cut v (8 * i) (8 * i + 8) 1)), (36, .int .i64 8), (37, .int .i64 (k : Int))] ⟨rfl, rfl, rfl, rfl, rfl, rfl, rfl, rfl, rfl, trivial⟩ (a5 (aZ (a7 (bg rfl rfl) rfl (a6 (a5 (ba rfl (fun hc2 => ?_) (fun hc2 => ?_)))))))
    · -- yes
      refine ag (a5 (ab (a5 (aZ ?_))))
      have hcu : RdB _ (cut v (8 * i) (8 * i + 8) 1) ((bs.drop (8 * i)).take (8 * i + 8 - 8 * i)) := (hv.keep hB hnv).cutB (by omega) (by omega)
      rw [show 8 * i + 8 - 8 * i = 8 from by omega] at hcu
      refine a7 (bk aA cf rfl (by first | assumption | exact Own.rd (by assumption) | exact Rd.sD (by assumption) hB | exact Own.rd (Own.sD (by assumption) hB)) rfl (by omega)) rfl ?_
      obtain ⟨c, hc⟩ : ∃ c, ((bs.drop (8 * i)).take 8)[k]? = some c := ⟨_, List.getElem?_eq_getElem (by omega)⟩
      have hgc : gb ((bs.drop (8 * i)).take 8) (k : Int) = (c.toNat : Int) := by unfold gb; rw [List.getD_eq_getElem?_getD, Int.toNat_natCast, hc]; rfl
      refine a7 (cT (v' := .int .u8 (c.toNat : Int)) (dI gg rfl hcu (by omega)) (by rw [hgc])) rfl (oga rfl rfl (a6 (aZ (ogm rfl rfl (ogm rfl rfl (a7 (ar i aT af rfl rfl (by omega) (by omega)) rfl (a7 (cT (v' := .int .u64 ((wrdF 0 (((bs.drop (8 * i)).take 8).take k)).toNat : Int)) (ah au rfl hbw (bM (by omega))) (by rw [nK _ _ hwl])) rfl (a7 (ke 8 rfl rfl rfl (by decide)) rfl ?_))))))))
      refine ogm rfl rfl (a7 (gb_cv c (by rw [aH]; rfl) aM rfl rfl) rfl (a7 (nf rfl rfl) rfl (a7 (ar i aT af rfl rfl (by omega) (by omega)) rfl (ae (cg (v := ((((wrdF 0 (((bs.drop (8 * i)).take 8).take k)) <<< 8) ||| (BitVec.ofNat 64 c.toNat)).toNat : Int)) af rfl rfl hbw (by omega)) ?_))))
      rintro _ w4 ⟨hb2, k2, z2⟩
      replace hbz := hbz.keep k2 (nm ne_p_b1)
      replace hB := hB.new k2 (nw ge_b1)
      clear z2
      refine a6 (a9 [(0, _), (1, _), (4, _), (5, _), (6, _), (23, _), (35, _), (36, _), (37, _)] ⟨rfl, rfl, rfl, rfl, rfl, rfl, rfl, rfl, rfl, trivial⟩ (bf (aZ (a7 (bo rfl rfl (by omega)) rfl (ogm rfl rfl (a6 (bX (Γ := Nat) (k + 1) ⟨rfl, rfl, rfl, rfl, rfl, rfl, rfl, rfl, rfl, trivial⟩ (by (try dsimp only); omega) (⟨by omega, by rw [ja hc, ← iQ _ (wrdF 0 (((bs.drop (8 * i)).take 8).take k)) _ hwl]; exact hb2, hbz, hB⟩))))))))
    · -- no
      refine bF rfl (bf (aZ (a7 (bo rfl rfl (by omega)) rfl (ogm rfl rfl (a6 ?_)))))
      obtain rfl : k = 8 := by omega
      rw [List.take_of_length_le (show ((bs.drop (8 * i)).take 8).length ≤ 8 from by omega)] at hbw
      refine bX (Γ := Nat) (i + 1) ⟨rfl, rfl, rfl, rfl, rfl, trivial⟩ (by (try dsimp only); omega) (⟨by omega, by rw [j9]; exact hbw, hbz, hB⟩)
  · -- no
    refine bF rfl (a5 (a5 (aZ (oga rfl rfl (a6 (ab ?_))))))
    obtain rfl : i = 16 := by omega
    refine bT (Γ := Nat) (fun t => [(0, .pointer (some ⟨p, 0, none⟩)), (4, .pointer (some ⟨b1, 0, none⟩)), (9, .int .i64 (t : Int))]) (fun t W => 16 ≤ t ∧ t ≤ 80 ∧ Bk W b1 150 (iv .u64 80 (wN (sch cS bs (t - 16)))) ∧ Bk W p 133 [.int .i64 64, .int .i64 80, .int .i64 1, .int .i64 8, .int .i64 7, .int .i64 19, .int .i64 61, .int .i64 6, .int .i64 28, .int .i64 34, .int .i64 39, .int .i64 14, .int .i64 18, .int .i64 41, .int .u64 ((s.a).toNat : Int), .int .u64 ((s.b).toNat : Int), .int .u64 ((s.c).toNat : Int), .int .u64 ((s.d).toNat : Int), .int .u64 ((s.e).toNat : Int), .int .u64 ((s.f).toNat : Int), .int .u64 ((s.g).toNat : Int), .int .u64 ((s.h).toNat : Int)] ∧ Keep [p] w W) (fun t => 80 - t) 16 ⟨rfl, rfl, rfl, trivial⟩ (⟨by omega, by omega, hbw, hbz, hB⟩) ?_
    rintro t w5 ⟨ht0, ht1, hbw, hbz, hB⟩
    refine a9 [(0, .pointer (some ⟨p, 0, none⟩)), (4, .pointer (some ⟨b1, 0, none⟩)), (9, .int .i64 (t : Int))] ⟨rfl, rfl, rfl, trivial⟩ (a5 (a5 (aZ (ogm rfl rfl (ogm rfl rfl (a7 (ce rfl) rfl (a7 (ax 0 aG rfl eQ (by decide) rfl rfl) rfl (a7 (ax 1 aJ rfl cj (by decide) rfl rfl) rfl ?_))))))))
    refine a7 (ah dl rfl hbz rfl) rfl (a7 (bg rfl rfl) rfl (a6 (ba rfl (fun hc3 => ?_) (fun hc3 => ?_))))
    · -- yes
      refine ag (a5 (ab (bc 34 [0, 1, 2, 3, 4, 5, 6, 7, 8, 9, 10, 12, 13, 14, 15, 17, 18, 19, 20, 21, 22, 23, 24, 25, 26, 29, 30, 31, 32, 11, 16, 27, 28, 33] [11, 27] [] mixed [(9, _), (0, _), (4, _)] ⟨rfl, rfl, rfl, trivial⟩ (by decide +kernel) rfl (fun w6 k3 => ?_))))
      obtain ⟨hbw, hbz⟩ := jp k3 hbw hbz
      replace hB := hB.trans k3.weak
      refine bH 9 rfl rfl rfl rfl rfl (bH 0 rfl rfl rfl rfl rfl (bH 9 rfl rfl rfl rfl rfl (am 63 rfl rfl rfl rfl (fun W' kk => cy rfl rfl (by omega)) (cE 4 64 rfl rfl rfl rfl rfl (fun W' kk => ar (t - 2) aT af rfl rfl (by omega) (by omega)) (am 65 rfl rfl rfl rfl (fun W' kk => ah au rfl (Bk.sD hbw kk) (bM (by omega))) (bH 0 rfl rfl rfl rfl rfl (am 67 rfl rfl rfl rfl (fun W' kk => ce rfl) (am 68 rfl rfl rfl rfl (fun W' kk => ax 0 aG rfl eQ (by decide) rfl rfl) ?_))))))))
      refine am 69 rfl rfl rfl rfl (fun W' kk => ax 5 aJ rfl fa (by decide) rfl rfl) (am 70 rfl rfl rfl rfl (fun W' kk => aa (cs' := [_, _, _]) nz fa rfl (Bk.sD hbz kk) rfl rfl) (bH 9 rfl rfl rfl rfl rfl (am 73 rfl rfl rfl rfl (fun W' kk => cy rfl rfl (by omega)) (cE 4 74 rfl rfl rfl rfl rfl (fun W' kk => ar (t - 7) aT af rfl rfl (by omega) (by omega)) (am 75 rfl rfl rfl rfl (fun W' kk => ah au rfl (Bk.sD hbw kk) (bM (by omega))) (bH 0 rfl rfl rfl rfl rfl (bH 9 rfl rfl rfl rfl rfl (am 79 rfl rfl rfl rfl (fun W' kk => cy rfl rfl (by omega)) ?_))))))))
      refine cE 4 80 rfl rfl rfl rfl rfl (fun W' kk => ar (t - 15) aT af rfl rfl (by omega) (by omega)) (am 81 rfl rfl rfl rfl (fun W' kk => ah au rfl (Bk.sD hbw kk) (bM (by omega))) (bH 0 rfl rfl rfl rfl rfl (am 83 rfl rfl rfl rfl (fun W' kk => ce rfl) (am 84 rfl rfl rfl rfl (fun W' kk => ax 0 aG rfl eQ (by decide) rfl rfl) (am 85 rfl rfl rfl rfl (fun W' kk => ax 2 aJ rfl fa (by decide) rfl rfl) (am 86 rfl rfl rfl rfl (fun W' kk => aa (cs' := [_, _, _]) nz fa rfl (Bk.sD hbz kk) rfl rfl) (bH 9 rfl rfl rfl rfl rfl (am 90 rfl rfl rfl rfl (fun W' kk => cy rfl rfl (by omega)) ?_))))))))
      refine cE 4 91 rfl rfl rfl rfl rfl (fun W' kk => ar (t - 16) aT af rfl rfl (by omega) (by omega)) (am 92 rfl rfl rfl rfl (fun W' kk => ah au rfl (Bk.sD hbw kk) (bM (by omega))) (bq [(62, _), (66, _), (71, _)] rfl rfl ⟨rfl, rfl, rfl, trivial⟩ rfl (a8 (vs := [_, _, _]) rfl (n4 p _ _ _ _ _ _ _ _ _ _ _ _ _ _ _ _ _ _ _ _ _ ((sch cS bs (t - 16)).getD (t - 2) 0) 19 61 6 (by decide) (by decide) (by decide) _ hbz)) ?_))
      rintro _ w7 ⟨rfl, k4⟩
      refine ⟨k4, ?_⟩
      obtain ⟨hbw, hbz⟩ := jp k4 hbw hbz
      replace hB := hB.trans k4.weak
      refine cE 72 76 rfl rfl rfl rfl rfl (fun W' kk => cO rfl rfl) (bq [(78, _), (82, _), (87, _)] rfl rfl ⟨rfl, rfl, rfl, trivial⟩ rfl (a8 (vs := [_, _, _]) rfl (n4 p _ _ _ _ _ _ _ _ _ _ _ _ _ _ _ _ _ _ _ _ _ ((sch cS bs (t - 16)).getD (t - 15) 0) 1 8 7 (by decide) (by decide) (by decide) _ hbz)) ?_)
      rintro _ w8 ⟨rfl, k5⟩
      refine ⟨k5, ?_⟩
      obtain ⟨hbw, hbz⟩ := jp k5 hbw hbz
      replace hB := hB.trans k5.weak
      refine cE 77 88 rfl rfl rfl rfl rfl (fun W' kk => cO rfl rfl) (cE 89 93 rfl rfl rfl rfl rfl (fun W' kk => cO rfl rfl) (bx (a7 (ar t aT af rfl rfl (by omega) (by omega)) rfl (ae (cg (v := (((((lo (19, 61, 6) ((sch cS bs (t - 16)).getD (t - 2) 0)) + ((sch cS bs (t - 16)).getD (t - 7) 0)) + (lo (1, 8, 7) ((sch cS bs (t - 16)).getD (t - 15) 0))) + ((sch cS bs (t - 16)).getD (t - 16) 0)).toNat : Int)) af rfl rfl hbw (by omega)) ?_))))
      rintro _ w9 ⟨hb3, k6, z3⟩
      replace hbz := hbz.keep k6 (nm ne_p_b1)
      replace hB := hB.new k6 (nw ge_b1)
      clear z3
      refine a6 (a9 [(9, _), (0, _), (4, _)] ⟨rfl, rfl, rfl, trivial⟩ (bf (aZ (ogm rfl rfl (a7 (bo rfl rfl (by omega)) rfl (oga rfl rfl (a6 (bX (Γ := Nat) (t + 1) ⟨rfl, rfl, rfl, trivial⟩ (by (try dsimp only); omega) (⟨by omega, by omega, by rw [show t + 1 - 16 = (t - 16) + 1 from by omega, sch, ← mG _ _ (by rw [eY]; omega : (sch cS bs (t - 16)).length = t), show 16 + (t - 16) = t from by omega]; exact hb3, hbz, hB⟩)))))))))
    · -- no
      refine bF rfl (a5 (aZ (ogm rfl rfl (a7 (ce rfl) rfl (a7 (ax 14 aG rfl dA (by decide) rfl rfl) rfl (a7 (aa (cs' := [_, _, _, _, _, _, _, _]) rx dA rfl hbz rfl rfl) rfl (ad (aj dA) rfl ?_)))))))
      rintro _ w10 ⟨b2, rfl, eb2, hb4, k7, z4⟩
      have ge_b2 : w.heap.size ≤ b2 := by have := hB.size; omega
      have ne_b1_b2 : b1 ≠ b2 := by have := hbw.lt; omega
      have ne_p_b2 : p ≠ b2 := by have := hbz.lt; omega
      obtain ⟨hbw, hbz⟩ := jp k7 hbw hbz
      replace hB := hB.trans k7.weak
      clear eb2 z4
      refine ae (bB dA rfl rfl rfl (by simp only [List.forall_mem_cons]; refine ⟨rfl, rfl, rfl, rfl, rfl, rfl, rfl, rfl, fun v hv => by cases hv⟩) hb4 rfl) ?_
      rintro _ w11 ⟨hb5, k8, z5⟩
      replace hbw := hbw.keep k8 (nm ne_b1_b2)
      replace hbz := hbz.keep k8 (nm ne_p_b2)
      replace hB := hB.new k8 (nw ge_b2)
      clear z5
      replace hb5 : Bk w11 b2 _ [.int .u64 ((s.a).toNat : Int), .int .u64 ((s.b).toNat : Int), .int .u64 ((s.c).toNat : Int), .int .u64 ((s.d).toNat : Int), .int .u64 ((s.e).toNat : Int), .int .u64 ((s.f).toNat : Int), .int .u64 ((s.g).toNat : Int), .int .u64 ((s.h).toNat : Int)] := hb5
      refine a6 (a9 [(0, _), (4, _), (10, _)] ⟨rfl, rfl, rfl, trivial⟩ (a5 (a5 (aZ (ogm rfl rfl (a7 (ce rfl) rfl (a7 (ax 0 aG rfl eQ (by decide) rfl rfl) rfl (a7 (ax 1 aJ rfl cj (by decide) rfl rfl) rfl ?_))))))))
      refine a7 (ah dl rfl hbz rfl) rfl (ogm rfl rfl (a6 (ab ?_)))
      obtain rfl : t = 80 := by omega
      refine bT (Γ := Nat × S8 64) (fun ⟨i, X⟩ => [(0, .pointer (some ⟨p, 0, none⟩)), (4, .pointer (some ⟨b1, 0, none⟩)), (10, .pointer (some ⟨b2, 0, none⟩)), (104, .int .i64 80), (105, .int .i64 (i : Int))]) (fun ⟨i, X⟩ W => i ≤ 80 ∧ X = rnds cS Kl (sch cS bs 64) s i ∧ Bk W b1 150 (iv .u64 80 (wN (sch cS bs 64))) ∧ Bk W p 133 [.int .i64 64, .int .i64 80, .int .i64 1, .int .i64 8, .int .i64 7, .int .i64 19, .int .i64 61, .int .i64 6, .int .i64 28, .int .i64 34, .int .i64 39, .int .i64 14, .int .i64 18, .int .i64 41, .int .u64 ((s.a).toNat : Int), .int .u64 ((s.b).toNat : Int), .int .u64 ((s.c).toNat : Int), .int .u64 ((s.d).toNat : Int), .int .u64 ((s.e).toNat : Int), .int .u64 ((s.f).toNat : Int), .int .u64 ((s.g).toNat : Int), .int .u64 ((s.h).toNat : Int)] ∧ Bk W b2 131 [.int .u64 ((X.a).toNat : Int), .int .u64 ((X.b).toNat : Int), .int .u64 ((X.c).toNat : Int), .int .u64 ((X.d).toNat : Int), .int .u64 ((X.e).toNat : Int), .int .u64 ((X.f).toNat : Int), .int .u64 ((X.g).toNat : Int), .int .u64 ((X.h).toNat : Int)] ∧ Keep [p] w W) (fun ⟨i, X⟩ => 80 - i) ⟨0, s⟩ ⟨rfl, rfl, rfl, rfl, rfl, trivial⟩ (⟨by omega, rfl, hbw, hbz, hb5, hB⟩) ?_
      rintro ⟨i, X⟩ w12 ⟨hi0, hX, hbw, hbz, hbx, hB⟩
      refine a9 [(0, .pointer (some ⟨p, 0, none⟩)), (4, .pointer (some ⟨b1, 0, none⟩)), (10, .pointer (some ⟨b2, 0, none⟩)), (104, .int .i64 80), (105, .int .i64 (i : Int))] ⟨rfl, rfl, rfl, rfl, rfl, trivial⟩ (a5 (aZ (a7 (bg rfl rfl) rfl (a6 (a5 (ba rfl (fun hc4 => ?_) (fun hc4 => ?_)))))))
      · -- yes
        refine ag (a5 (ab (a5 (aZ (ogm rfl rfl (oga rfl rfl (a6 (a5 ?_))))))))
        refine eJ mixed (by decide +kernel) (fun w13 k9 => ?_)
        obtain ⟨hbw, hbz, hbx⟩ := kp3 k9 hbw hbz hbx
        replace hB := hB.trans k9.weak
        refine ao (ar 4 aD af rfl rfl (by omega) (by omega)) rfl (ao (ah au rfl hbx rfl) rfl (ao (ar 0 aD af rfl rfl (by omega) (by omega)) rfl (ao (ah au rfl hbx rfl) rfl (ao (fM rfl) rfl (ao (fM rfl) rfl (cU (a6 (a5 ?_))))))))
        refine bc 37 [0, 1, 2, 3, 4, 5, 6, 7, 8, 11, 12, 13, 14, 15, 16, 17, 18, 19, 20, 22, 23, 24, 25, 26, 27, 28, 29, 30, 31, 33, 34, 35, 9, 10, 21, 32, 36] [9] [] mixed [(10, _), (0, _), (12, _), (11, _), (4, _), (104, _), (105, _), (13, _)] ⟨rfl, rfl, rfl, rfl, rfl, rfl, rfl, rfl, trivial⟩ (by decide +kernel) rfl (fun w14 k10 => ?_)
        obtain ⟨hbw, hbz, hbx⟩ := kp3 k10 hbw hbz hbx
        replace hB := hB.trans k10.weak
        refine am 10 rfl rfl rfl rfl (fun W' kk => ar 7 aD af rfl rfl (by omega) (by omega)) (am 112 rfl rfl rfl rfl (fun W' kk => ah au rfl (Bk.sD hbx kk) rfl) (bH 0 rfl rfl rfl rfl rfl (bH 12 rfl rfl rfl rfl rfl (bH 0 rfl rfl rfl rfl rfl (am 116 rfl rfl rfl rfl (fun W' kk => ce rfl) (am 117 rfl rfl rfl rfl (fun W' kk => ax 0 aG rfl eQ (by decide) rfl rfl) (am 118 rfl rfl rfl rfl (fun W' kk => ax 11 aJ rfl fa (by decide) rfl rfl) (am 119 rfl rfl rfl rfl (fun W' kk => aa (cs' := [_, _, _]) nz fa rfl (Bk.sD hbz kk) rfl rfl) ?_))))))))
        refine bH 12 rfl rfl rfl rfl rfl (am 10 rfl rfl rfl rfl (fun W' kk => ar 5 aD af rfl rfl (by omega) (by omega)) (am 124 rfl rfl rfl rfl (fun W' kk => ah au rfl (Bk.sD hbx kk) rfl) (cE 123 125 rfl rfl rfl rfl rfl (fun W' kk => fE rfl rfl) (bH 12 rfl rfl rfl rfl rfl (am 127 rfl rfl rfl rfl (fun W' kk => rC rfl) (am 10 rfl rfl rfl rfl (fun W' kk => ar 6 aD af rfl rfl (by omega) (by omega)) (am 129 rfl rfl rfl rfl (fun W' kk => ah au rfl (Bk.sD hbx kk) rfl) (cE 128 130 rfl rfl rfl rfl rfl (fun W' kk => fE rfl rfl) ?_))))))))
        refine cE 126 131 rfl rfl rfl rfl rfl (fun W' kk => eT rfl rfl) (bH 11 rfl rfl rfl rfl rfl (am 134 rfl rfl rfl rfl (fun W' kk => ar i aT af rfl rfl (by omega) (by omega)) (am 135 rfl rfl rfl rfl (fun W' kk => g_ld au rfl ((hT.keep (hB.trans kk.weak) hpS).cube (by omega))) (bH 0 rfl rfl rfl rfl rfl (am 137 rfl rfl rfl rfl (fun W' kk => ce rfl) (am 138 rfl rfl rfl rfl (fun W' kk => ax 0 aG rfl eQ (by decide) rfl rfl) (am 139 rfl rfl rfl rfl (fun W' kk => ax 0 aJ rfl cj (by decide) rfl rfl) (am 140 rfl rfl rfl rfl (fun W' kk => ah dl rfl (Bk.sD hbz kk) rfl) ?_))))))))
        refine am 141 rfl rfl rfl rfl (fun W' kk => bC (j := 0) (cX rfl rfl) (by decide)) (cE 136 142 rfl rfl rfl rfl rfl (fun W' kk => eG 0 rfl rfl rfl (by decide)) (bH 11 rfl rfl rfl rfl rfl (cE 4 145 rfl rfl rfl rfl rfl (fun W' kk => ar i aT af rfl rfl (by omega) (by omega)) (am 146 rfl rfl rfl rfl (fun W' kk => ah au rfl (Bk.sD hbw kk) (bM (by omega))) (bq [(114, _), (115, _), (120, _)] rfl rfl ⟨rfl, rfl, rfl, trivial⟩ rfl (a8 (vs := [_, _, _]) rfl (ln p _ _ _ _ _ _ _ _ _ _ _ _ _ _ _ _ _ _ _ _ _ X.e 14 18 41 (by decide) (by decide) (by decide) _ hbz)) ?_)))))
        rintro _ w15 ⟨rfl, k11⟩
        refine ⟨k11, ?_⟩
        obtain ⟨hbw, hbz, hbx⟩ := kp3 k11 hbw hbz hbx
        replace hB := hB.trans k11.weak
        refine cE 113 121 rfl rfl rfl rfl rfl (fun W' kk => cO rfl rfl) (cE 122 132 rfl rfl rfl rfl rfl (fun W' kk => cO rfl rfl) (cE 133 143 rfl rfl rfl rfl rfl (fun W' kk => cO rfl rfl) (cE 144 147 rfl rfl rfl rfl rfl (fun W' kk => cO rfl rfl) (bx (oga rfl rfl (a6 (a9 [(10, _), (0, _), (4, _), (104, _), (105, _), (13, _), (14, _)] ⟨rfl, rfl, rfl, rfl, rfl, rfl, rfl, trivial⟩ (a5 ?_))))))))
        refine bc 24 [0, 1, 2, 3, 4, 5, 6, 8, 9, 10, 11, 12, 13, 14, 15, 16, 17, 18, 19, 20, 21, 22, 7, 23] [7] [] mixed [(0, _), (13, _), (10, _), (4, _), (104, _), (105, _), (14, _)] ⟨rfl, rfl, rfl, rfl, rfl, rfl, rfl, trivial⟩ (by decide +kernel) rfl (fun w16 k12 => ?_)
        obtain ⟨hbw, hbz, hbx⟩ := kp3 k12 hbw hbz hbx
        replace hB := hB.trans k12.weak
        refine bH 0 rfl rfl rfl rfl rfl (bH 13 rfl rfl rfl rfl rfl (bH 0 rfl rfl rfl rfl rfl (am 151 rfl rfl rfl rfl (fun W' kk => ce rfl) (am 152 rfl rfl rfl rfl (fun W' kk => ax 0 aG rfl eQ (by decide) rfl rfl) (am 153 rfl rfl rfl rfl (fun W' kk => ax 8 aJ rfl fa (by decide) rfl rfl) (am 154 rfl rfl rfl rfl (fun W' kk => aa (cs' := [_, _, _]) nz fa rfl (Bk.sD hbz kk) rfl rfl) (bH 13 rfl rfl rfl rfl rfl (am 10 rfl rfl rfl rfl (fun W' kk => ar 1 aD af rfl rfl (by omega) (by omega)) ?_))))))))
        refine am 158 rfl rfl rfl rfl (fun W' kk => ah au rfl (Bk.sD hbx kk) rfl) (cE 157 159 rfl rfl rfl rfl rfl (fun W' kk => fE rfl rfl) (bH 13 rfl rfl rfl rfl rfl (am 10 rfl rfl rfl rfl (fun W' kk => ar 2 aD af rfl rfl (by omega) (by omega)) (am 162 rfl rfl rfl rfl (fun W' kk => ah au rfl (Bk.sD hbx kk) rfl) (cE 161 163 rfl rfl rfl rfl rfl (fun W' kk => fE rfl rfl) (cE 160 164 rfl rfl rfl rfl rfl (fun W' kk => eT rfl rfl) (am 10 rfl rfl rfl rfl (fun W' kk => ar 1 aD af rfl rfl (by omega) (by omega)) (am 166 rfl rfl rfl rfl (fun W' kk => ah au rfl (Bk.sD hbx kk) rfl) ?_))))))))
        refine am 10 rfl rfl rfl rfl (fun W' kk => ar 2 aD af rfl rfl (by omega) (by omega)) (am 168 rfl rfl rfl rfl (fun W' kk => ah au rfl (Bk.sD hbx kk) rfl) (cE 167 169 rfl rfl rfl rfl rfl (fun W' kk => fE rfl rfl) (cE 165 170 rfl rfl rfl rfl rfl (fun W' kk => eT rfl rfl) (bq [(149, _), (150, _), (155, _)] rfl rfl ⟨rfl, rfl, rfl, trivial⟩ rfl (a8 (vs := [_, _, _]) rfl (ln p _ _ _ _ _ _ _ _ _ _ _ _ _ _ _ _ _ _ _ _ _ X.a 28 34 39 (by decide) (by decide) (by decide) _ hbz)) ?_))))
        rintro _ w17 ⟨rfl, k13⟩
        refine ⟨k13, ?_⟩
        obtain ⟨hbw, hbz, hbx⟩ := kp3 k13 hbw hbz hbx
        replace hB := hB.trans k13.weak
        refine cE 156 171 rfl rfl rfl rfl rfl (fun W' kk => cO rfl rfl) (bx (oga rfl rfl (a6 (a9 [(0, _), (10, _), (4, _), (104, _), (105, _), (14, _), (15, _)] ⟨rfl, rfl, rfl, rfl, rfl, rfl, rfl, trivial⟩ (a5 (cI 2 mixed (by decide +kernel) (fun w18 k14 => ?_)))))))
        obtain ⟨hbw, hbz, hbx⟩ := kp3 k14 hbw hbz hbx
        replace hB := hB.trans k14.weak
        refine ao (g_sla (l := 1) (h := 8) aD af rfl (.inr ⟨_, _, rfl, rfl⟩) (.inl ⟨rfl, rfl⟩) (by decide) (by decide)) rfl (ao (g_sla (l := 0) (h := 7) aD af rfl (.inl ⟨rfl, rfl⟩) (.inr ⟨_, _, rfl, rfl⟩) (by decide) (by decide)) rfl (cU (ad (d_cpr (k := 7) aC af rfl rfl hbx (by simp only [List.forall_mem_cons]; exact ⟨rfl, rfl, rfl, rfl, rfl, rfl, rfl, rfl, fun v hv => by cases hv⟩) rfl (Nat.le_of_ble_eq_true rfl) (Nat.le_of_ble_eq_true rfl)) rfl ?_)))
        rintro _ w19 ⟨rfl, hb6, k15, z6⟩
        replace hbw := hbw.keep k15 (nm ne_b1_b2)
        replace hbz := hbz.keep k15 (nm ne_p_b2)
        replace hB := hB.new k15 (nw ge_b2)
        clear z6
        replace hb6 : Bk w19 b2 131 [.int .u64 ((X.a).toNat : Int), .int .u64 ((X.a).toNat : Int), .int .u64 ((X.b).toNat : Int), .int .u64 ((X.c).toNat : Int), .int .u64 ((X.d).toNat : Int), .int .u64 ((X.e).toNat : Int), .int .u64 ((X.f).toNat : Int), .int .u64 ((X.g).toNat : Int)] := hb6
        refine a6 (a5 (aZ (a7 (ar 4 aD af rfl rfl (by omega) (by omega)) rfl (a7 (ah au rfl hb6 rfl) rfl (ogm rfl rfl (a7 (cO rfl rfl) rfl (a7 (ar 4 aD af rfl rfl (by omega) (by omega)) rfl (ae (ci af rfl rfl rfl hb6 rfl) ?_))))))))
        rintro _ w20 ⟨hb7, k16, z7⟩
        replace hbw := hbw.keep k16 (nm ne_b1_b2)
        replace hbz := hbz.keep k16 (nm ne_p_b2)
        replace hB := hB.new k16 (nw ge_b2)
        clear z7
        replace hb7 : Bk w20 b2 _ [.int .u64 ((X.a).toNat : Int), .int .u64 ((X.a).toNat : Int), .int .u64 ((X.b).toNat : Int), .int .u64 ((X.c).toNat : Int), .int .u64 ((X.d + ((((X.h + (hi (14, 18, 41) X.e)) + ((X.e &&& X.f) ^^^ ((~~~X.e) &&& X.g))) + (((KB Kl).getD i 0) >>> 0)) + ((sch cS bs 64).getD i 0))).toNat : Int), .int .u64 ((X.e).toNat : Int), .int .u64 ((X.f).toNat : Int), .int .u64 ((X.g).toNat : Int)] := hb7
        refine a6 (aZ (ogm rfl rfl (ogm rfl rfl (a7 (cO rfl rfl) rfl (a7 (ar 0 aD af rfl rfl (by omega) (by omega)) rfl (ae (ci af rfl rfl rfl hb7 rfl) ?_))))))
        rintro _ w21 ⟨hb8, k17, z8⟩
        replace hbw := hbw.keep k17 (nm ne_b1_b2)
        replace hbz := hbz.keep k17 (nm ne_p_b2)
        replace hB := hB.new k17 (nw ge_b2)
        clear z8
        replace hb8 : Bk w21 b2 _ [.int .u64 ((((((X.h + (hi (14, 18, 41) X.e)) + ((X.e &&& X.f) ^^^ ((~~~X.e) &&& X.g))) + (((KB Kl).getD i 0) >>> 0)) + ((sch cS bs 64).getD i 0)) + ((hi (28, 34, 39) X.a) + (((X.a &&& X.b) ^^^ (X.a &&& X.c)) ^^^ (X.b &&& X.c)))).toNat : Int), .int .u64 ((X.a).toNat : Int), .int .u64 ((X.b).toNat : Int), .int .u64 ((X.c).toNat : Int), .int .u64 ((X.d + ((((X.h + (hi (14, 18, 41) X.e)) + ((X.e &&& X.f) ^^^ ((~~~X.e) &&& X.g))) + (((KB Kl).getD i 0) >>> 0)) + ((sch cS bs 64).getD i 0))).toNat : Int), .int .u64 ((X.e).toNat : Int), .int .u64 ((X.f).toNat : Int), .int .u64 ((X.g).toNat : Int)] := hb8
        refine a6 (a9 [(0, _), (10, _), (4, _), (104, _), (105, _)] ⟨rfl, rfl, rfl, rfl, rfl, trivial⟩ (bf (aZ (a7 (bo rfl rfl (by omega)) rfl (ogm rfl rfl (a6 (bX (Γ := Nat × S8 64) ⟨i + 1, rnd cS (cst 64 Kl i) ((sch cS bs 64).getD i 0) X⟩ ⟨rfl, rfl, rfl, rfl, rfl, trivial⟩ (by (try dsimp only); omega) (⟨by omega, by rw [hX]; rfl, hbw, hbz, by rw [← ft]; exact hb8, hB⟩))))))))
      · -- no
        refine bF rfl (a5 (aZ (ogm rfl rfl (a6 (ab (d7 9 (a5 (aZ ?_))))))))
        refine a7 (bg rfl rfl) rfl (a6 (a5 (bd rfl (by decide) (ag (a5 (ab (a5 (aZ ?_))))))))
        refine ogm rfl rfl (oga rfl rfl (a6 (bO 12 [0, 1, 2, 3, 4, 5, 6, 7, 8, 9, 10, 11] [] [] [] mixed [(0, _), (16, _), (10, _), (186, _)] ⟨rfl, rfl, rfl, rfl, trivial⟩ (by decide +kernel) (by decide) (by decide) ?_ (fun x hx => by cases hx) rfl (fun w22 k18 => ?_))))
        · intro q hq; cases hq
        obtain ⟨hbz, hbx⟩ := jp k18 hbz hbx
        replace hB := hB.trans k18.weak
        refine cA 0 rfl rfl rfl rfl rfl (cA 16 rfl rfl rfl rfl rfl (al 189 rfl rfl rfl rfl (fun W' kk => ce rfl) (al 191 rfl rfl rfl rfl (fun W' kk => ax 14 aG rfl dA (by decide) rfl rfl) (cm 190 192 rfl rfl rfl rfl rfl (fun W' kk => ar (14 + 0) aD af rfl rfl (by omega) (by omega)) (al 193 rfl rfl rfl rfl (fun W' kk => ah au rfl (Bk.sD hbz kk) rfl) (cA 16 rfl rfl rfl rfl rfl (cm 10 195 rfl rfl rfl rfl rfl (fun W' kk => ar 0 aD af rfl rfl (by omega) (by omega)) (al 196 rfl rfl rfl rfl (fun W' kk => ah au rfl (Bk.sD hbx kk) rfl) ?_))))))))
        refine cm 194 197 rfl rfl rfl rfl rfl (fun W' kk => cO rfl rfl) (al 189 rfl rfl rfl rfl (fun W' kk => ce rfl) (al 199 rfl rfl rfl rfl (fun W' kk => ax 14 aG rfl dA (by decide) rfl rfl) (cC (fun w23 k19 => ?_))))
        obtain ⟨hbz, hbx⟩ := jp k19 hbz hbx
        replace hB := hB.trans k19.weak
        refine bP (a7 (ar (14 + 0) aD af rfl rfl (by omega) (by omega)) rfl (ae (ci af rfl rfl rfl hbz rfl) ?_))
        rintro _ w24 ⟨hb9, k20, z9⟩
        replace hbx := hbx.keep k20 (nm (Ne.symm ne_p_b2))
        replace hB := hB.trans k20
        clear z9
        replace hb9 : Bk w24 p _ [.int .i64 64, .int .i64 80, .int .i64 1, .int .i64 8, .int .i64 7, .int .i64 19, .int .i64 61, .int .i64 6, .int .i64 28, .int .i64 34, .int .i64 39, .int .i64 14, .int .i64 18, .int .i64 41, .int .u64 ((s.a + X.a).toNat : Int), .int .u64 ((s.b).toNat : Int), .int .u64 ((s.c).toNat : Int), .int .u64 ((s.d).toNat : Int), .int .u64 ((s.e).toNat : Int), .int .u64 ((s.f).toNat : Int), .int .u64 ((s.g).toNat : Int), .int .u64 ((s.h).toNat : Int)] := hb9
        refine a6 (a9 [(0, _), (10, _), (186, _)] ⟨rfl, rfl, rfl, trivial⟩ (bf (aZ (a7 (bC (j := 1) (ay rfl rfl) (by decide)) rfl (ogm rfl rfl (a6 (cF (a5 ?_))))))))
        refine aZ (a7 (bg rfl rfl) rfl (a6 (a5 (bd rfl (by decide) (ag (a5 (ab (a5 ?_))))))))
        refine aZ (ogm rfl rfl (oga rfl rfl (a6 (bO 12 [0, 1, 2, 3, 4, 5, 6, 7, 8, 9, 10, 11] [] [] [] mixed [(0, _), (16, _), (10, _), (186, _)] ⟨rfl, rfl, rfl, rfl, trivial⟩ (by decide +kernel) (by decide) (by decide) ?_ (fun x hx => by cases hx) rfl (fun w25 k21 => ?_)))))
        · intro q hq; cases hq
        obtain ⟨hbx, hb9⟩ := jp k21 hbx hb9
        replace hB := hB.trans k21.weak
        refine cA 0 rfl rfl rfl rfl rfl (cA 16 rfl rfl rfl rfl rfl (al 189 rfl rfl rfl rfl (fun W' kk => ce rfl) (al 191 rfl rfl rfl rfl (fun W' kk => ax 14 aG rfl dA (by decide) rfl rfl) (cm 190 192 rfl rfl rfl rfl rfl (fun W' kk => ar (14 + 1) aD af rfl rfl (by omega) (by omega)) (al 193 rfl rfl rfl rfl (fun W' kk => ah au rfl (Bk.sD hb9 kk) rfl) (cA 16 rfl rfl rfl rfl rfl (cm 10 195 rfl rfl rfl rfl rfl (fun W' kk => ar 1 aD af rfl rfl (by omega) (by omega)) (al 196 rfl rfl rfl rfl (fun W' kk => ah au rfl (Bk.sD hbx kk) rfl) ?_))))))))
        refine cm 194 197 rfl rfl rfl rfl rfl (fun W' kk => cO rfl rfl) (al 189 rfl rfl rfl rfl (fun W' kk => ce rfl) (al 199 rfl rfl rfl rfl (fun W' kk => ax 14 aG rfl dA (by decide) rfl rfl) (cC (fun w26 k22 => ?_))))
        obtain ⟨hbx, hb9⟩ := jp k22 hbx hb9
        replace hB := hB.trans k22.weak
        refine bP (a7 (ar (14 + 1) aD af rfl rfl (by omega) (by omega)) rfl (ae (ci af rfl rfl rfl hb9 rfl) ?_))
        rintro _ w27 ⟨hb10, k23, z10⟩
        replace hbx := hbx.keep k23 (nm (Ne.symm ne_p_b2))
        replace hB := hB.trans k23
        clear z10
        replace hb10 : Bk w27 p _ [.int .i64 64, .int .i64 80, .int .i64 1, .int .i64 8, .int .i64 7, .int .i64 19, .int .i64 61, .int .i64 6, .int .i64 28, .int .i64 34, .int .i64 39, .int .i64 14, .int .i64 18, .int .i64 41, .int .u64 ((s.a + X.a).toNat : Int), .int .u64 ((s.b + X.b).toNat : Int), .int .u64 ((s.c).toNat : Int), .int .u64 ((s.d).toNat : Int), .int .u64 ((s.e).toNat : Int), .int .u64 ((s.f).toNat : Int), .int .u64 ((s.g).toNat : Int), .int .u64 ((s.h).toNat : Int)] := hb10
        refine a6 (a9 [(0, _), (10, _), (186, _)] ⟨rfl, rfl, rfl, trivial⟩ (bf (aZ (a7 (bC (j := 2) (ay rfl rfl) (by decide)) rfl (ogm rfl rfl (a6 (cF (a5 ?_))))))))
        refine aZ (a7 (bg rfl rfl) rfl (a6 (a5 (bd rfl (by decide) (ag (a5 (ab (a5 ?_))))))))
        refine aZ (ogm rfl rfl (oga rfl rfl (a6 (bO 12 [0, 1, 2, 3, 4, 5, 6, 7, 8, 9, 10, 11] [] [] [] mixed [(0, _), (16, _), (10, _), (186, _)] ⟨rfl, rfl, rfl, rfl, trivial⟩ (by decide +kernel) (by decide) (by decide) ?_ (fun x hx => by cases hx) rfl (fun w28 k24 => ?_)))))
        · intro q hq; cases hq
        obtain ⟨hbx, hb10⟩ := jp k24 hbx hb10
        replace hB := hB.trans k24.weak
        refine cA 0 rfl rfl rfl rfl rfl (cA 16 rfl rfl rfl rfl rfl (al 189 rfl rfl rfl rfl (fun W' kk => ce rfl) (al 191 rfl rfl rfl rfl (fun W' kk => ax 14 aG rfl dA (by decide) rfl rfl) (cm 190 192 rfl rfl rfl rfl rfl (fun W' kk => ar (14 + 2) aD af rfl rfl (by omega) (by omega)) (al 193 rfl rfl rfl rfl (fun W' kk => ah au rfl (Bk.sD hb10 kk) rfl) (cA 16 rfl rfl rfl rfl rfl (cm 10 195 rfl rfl rfl rfl rfl (fun W' kk => ar 2 aD af rfl rfl (by omega) (by omega)) (al 196 rfl rfl rfl rfl (fun W' kk => ah au rfl (Bk.sD hbx kk) rfl) ?_))))))))
        refine cm 194 197 rfl rfl rfl rfl rfl (fun W' kk => cO rfl rfl) (al 189 rfl rfl rfl rfl (fun W' kk => ce rfl) (al 199 rfl rfl rfl rfl (fun W' kk => ax 14 aG rfl dA (by decide) rfl rfl) (cC (fun w29 k25 => ?_))))
        obtain ⟨hbx, hb10⟩ := jp k25 hbx hb10
        replace hB := hB.trans k25.weak
        refine bP (a7 (ar (14 + 2) aD af rfl rfl (by omega) (by omega)) rfl (ae (ci af rfl rfl rfl hb10 rfl) ?_))
        rintro _ w30 ⟨hb11, k26, z11⟩
        replace hbx := hbx.keep k26 (nm (Ne.symm ne_p_b2))
        replace hB := hB.trans k26
        clear z11
        replace hb11 : Bk w30 p _ [.int .i64 64, .int .i64 80, .int .i64 1, .int .i64 8, .int .i64 7, .int .i64 19, .int .i64 61, .int .i64 6, .int .i64 28, .int .i64 34, .int .i64 39, .int .i64 14, .int .i64 18, .int .i64 41, .int .u64 ((s.a + X.a).toNat : Int), .int .u64 ((s.b + X.b).toNat : Int), .int .u64 ((s.c + X.c).toNat : Int), .int .u64 ((s.d).toNat : Int), .int .u64 ((s.e).toNat : Int), .int .u64 ((s.f).toNat : Int), .int .u64 ((s.g).toNat : Int), .int .u64 ((s.h).toNat : Int)] := hb11
        refine a6 (a9 [(0, _), (10, _), (186, _)] ⟨rfl, rfl, rfl, trivial⟩ (bf (aZ (a7 (bC (j := 3) (ay rfl rfl) (by decide)) rfl (ogm rfl rfl (a6 (cF (a5 ?_))))))))
        refine aZ (a7 (bg rfl rfl) rfl (a6 (a5 (bd rfl (by decide) (ag (a5 (ab (a5 ?_))))))))
        refine aZ (ogm rfl rfl (oga rfl rfl (a6 (bO 12 [0, 1, 2, 3, 4, 5, 6, 7, 8, 9, 10, 11] [] [] [] mixed [(0, _), (16, _), (10, _), (186, _)] ⟨rfl, rfl, rfl, rfl, trivial⟩ (by decide +kernel) (by decide) (by decide) ?_ (fun x hx => by cases hx) rfl (fun w31 k27 => ?_)))))
        · intro q hq; cases hq
        obtain ⟨hbx, hb11⟩ := jp k27 hbx hb11
        replace hB := hB.trans k27.weak
        refine cA 0 rfl rfl rfl rfl rfl (cA 16 rfl rfl rfl rfl rfl (al 189 rfl rfl rfl rfl (fun W' kk => ce rfl) (al 191 rfl rfl rfl rfl (fun W' kk => ax 14 aG rfl dA (by decide) rfl rfl) (cm 190 192 rfl rfl rfl rfl rfl (fun W' kk => ar (14 + 3) aD af rfl rfl (by omega) (by omega)) (al 193 rfl rfl rfl rfl (fun W' kk => ah au rfl (Bk.sD hb11 kk) rfl) (cA 16 rfl rfl rfl rfl rfl (cm 10 195 rfl rfl rfl rfl rfl (fun W' kk => ar 3 aD af rfl rfl (by omega) (by omega)) (al 196 rfl rfl rfl rfl (fun W' kk => ah au rfl (Bk.sD hbx kk) rfl) ?_))))))))
        refine cm 194 197 rfl rfl rfl rfl rfl (fun W' kk => cO rfl rfl) (al 189 rfl rfl rfl rfl (fun W' kk => ce rfl) (al 199 rfl rfl rfl rfl (fun W' kk => ax 14 aG rfl dA (by decide) rfl rfl) (cC (fun w32 k28 => ?_))))
        obtain ⟨hbx, hb11⟩ := jp k28 hbx hb11
        replace hB := hB.trans k28.weak
        refine bP (a7 (ar (14 + 3) aD af rfl rfl (by omega) (by omega)) rfl (ae (ci af rfl rfl rfl hb11 rfl) ?_))
        rintro _ w33 ⟨hb12, k29, z12⟩
        replace hbx := hbx.keep k29 (nm (Ne.symm ne_p_b2))
        replace hB := hB.trans k29
        clear z12
        replace hb12 : Bk w33 p _ [.int .i64 64, .int .i64 80, .int .i64 1, .int .i64 8, .int .i64 7, .int .i64 19, .int .i64 61, .int .i64 6, .int .i64 28, .int .i64 34, .int .i64 39, .int .i64 14, .int .i64 18, .int .i64 41, .int .u64 ((s.a + X.a).toNat : Int), .int .u64 ((s.b + X.b).toNat : Int), .int .u64 ((s.c + X.c).toNat : Int), .int .u64 ((s.d + X.d).toNat : Int), .int .u64 ((s.e).toNat : Int), .int .u64 ((s.f).toNat : Int), .int .u64 ((s.g).toNat : Int), .int .u64 ((s.h).toNat : Int)] := hb12
        refine a6 (a9 [(0, _), (10, _), (186, _)] ⟨rfl, rfl, rfl, trivial⟩ (bf (aZ (a7 (bC (j := 4) (ay rfl rfl) (by decide)) rfl (ogm rfl rfl (a6 (cF (a5 ?_))))))))
        refine aZ (a7 (bg rfl rfl) rfl (a6 (a5 (bd rfl (by decide) (ag (a5 (ab (a5 ?_))))))))
        refine aZ (ogm rfl rfl (oga rfl rfl (a6 (bO 12 [0, 1, 2, 3, 4, 5, 6, 7, 8, 9, 10, 11] [] [] [] mixed [(0, _), (16, _), (10, _), (186, _)] ⟨rfl, rfl, rfl, rfl, trivial⟩ (by decide +kernel) (by decide) (by decide) ?_ (fun x hx => by cases hx) rfl (fun w34 k30 => ?_)))))
        · intro q hq; cases hq
        obtain ⟨hbx, hb12⟩ := jp k30 hbx hb12
        replace hB := hB.trans k30.weak
        refine cA 0 rfl rfl rfl rfl rfl (cA 16 rfl rfl rfl rfl rfl (al 189 rfl rfl rfl rfl (fun W' kk => ce rfl) (al 191 rfl rfl rfl rfl (fun W' kk => ax 14 aG rfl dA (by decide) rfl rfl) (cm 190 192 rfl rfl rfl rfl rfl (fun W' kk => ar (14 + 4) aD af rfl rfl (by omega) (by omega)) (al 193 rfl rfl rfl rfl (fun W' kk => ah au rfl (Bk.sD hb12 kk) rfl) (cA 16 rfl rfl rfl rfl rfl (cm 10 195 rfl rfl rfl rfl rfl (fun W' kk => ar 4 aD af rfl rfl (by omega) (by omega)) (al 196 rfl rfl rfl rfl (fun W' kk => ah au rfl (Bk.sD hbx kk) rfl) ?_))))))))
        refine cm 194 197 rfl rfl rfl rfl rfl (fun W' kk => cO rfl rfl) (al 189 rfl rfl rfl rfl (fun W' kk => ce rfl) (al 199 rfl rfl rfl rfl (fun W' kk => ax 14 aG rfl dA (by decide) rfl rfl) (cC (fun w35 k31 => ?_))))
        obtain ⟨hbx, hb12⟩ := jp k31 hbx hb12
        replace hB := hB.trans k31.weak
        refine bP (a7 (ar (14 + 4) aD af rfl rfl (by omega) (by omega)) rfl (ae (ci af rfl rfl rfl hb12 rfl) ?_))
        rintro _ w36 ⟨hb13, k32, z13⟩
        replace hbx := hbx.keep k32 (nm (Ne.symm ne_p_b2))
        replace hB := hB.trans k32
        clear z13
        replace hb13 : Bk w36 p _ [.int .i64 64, .int .i64 80, .int .i64 1, .int .i64 8, .int .i64 7, .int .i64 19, .int .i64 61, .int .i64 6, .int .i64 28, .int .i64 34, .int .i64 39, .int .i64 14, .int .i64 18, .int .i64 41, .int .u64 ((s.a + X.a).toNat : Int), .int .u64 ((s.b + X.b).toNat : Int), .int .u64 ((s.c + X.c).toNat : Int), .int .u64 ((s.d + X.d).toNat : Int), .int .u64 ((s.e + X.e).toNat : Int), .int .u64 ((s.f).toNat : Int), .int .u64 ((s.g).toNat : Int), .int .u64 ((s.h).toNat : Int)] := hb13
        refine a6 (a9 [(0, _), (10, _), (186, _)] ⟨rfl, rfl, rfl, trivial⟩ (bf (aZ (a7 (bC (j := 5) (ay rfl rfl) (by decide)) rfl (ogm rfl rfl (a6 (cF (a5 ?_))))))))
        refine aZ (a7 (bg rfl rfl) rfl (a6 (a5 (bd rfl (by decide) (ag (a5 (ab (a5 ?_))))))))
        refine aZ (ogm rfl rfl (oga rfl rfl (a6 (bO 12 [0, 1, 2, 3, 4, 5, 6, 7, 8, 9, 10, 11] [] [] [] mixed [(0, _), (16, _), (10, _), (186, _)] ⟨rfl, rfl, rfl, rfl, trivial⟩ (by decide +kernel) (by decide) (by decide) ?_ (fun x hx => by cases hx) rfl (fun w37 k33 => ?_)))))
        · intro q hq; cases hq
        obtain ⟨hbx, hb13⟩ := jp k33 hbx hb13
        replace hB := hB.trans k33.weak
        refine cA 0 rfl rfl rfl rfl rfl (cA 16 rfl rfl rfl rfl rfl (al 189 rfl rfl rfl rfl (fun W' kk => ce rfl) (al 191 rfl rfl rfl rfl (fun W' kk => ax 14 aG rfl dA (by decide) rfl rfl) (cm 190 192 rfl rfl rfl rfl rfl (fun W' kk => ar (14 + 5) aD af rfl rfl (by omega) (by omega)) (al 193 rfl rfl rfl rfl (fun W' kk => ah au rfl (Bk.sD hb13 kk) rfl) (cA 16 rfl rfl rfl rfl rfl (cm 10 195 rfl rfl rfl rfl rfl (fun W' kk => ar 5 aD af rfl rfl (by omega) (by omega)) (al 196 rfl rfl rfl rfl (fun W' kk => ah au rfl (Bk.sD hbx kk) rfl) ?_))))))))
        refine cm 194 197 rfl rfl rfl rfl rfl (fun W' kk => cO rfl rfl) (al 189 rfl rfl rfl rfl (fun W' kk => ce rfl) (al 199 rfl rfl rfl rfl (fun W' kk => ax 14 aG rfl dA (by decide) rfl rfl) (cC (fun w38 k34 => ?_))))
        obtain ⟨hbx, hb13⟩ := jp k34 hbx hb13
        replace hB := hB.trans k34.weak
        refine bP (a7 (ar (14 + 5) aD af rfl rfl (by omega) (by omega)) rfl (ae (ci af rfl rfl rfl hb13 rfl) ?_))
        rintro _ w39 ⟨hb14, k35, z14⟩
        replace hbx := hbx.keep k35 (nm (Ne.symm ne_p_b2))
        replace hB := hB.trans k35
        clear z14
        replace hb14 : Bk w39 p _ [.int .i64 64, .int .i64 80, .int .i64 1, .int .i64 8, .int .i64 7, .int .i64 19, .int .i64 61, .int .i64 6, .int .i64 28, .int .i64 34, .int .i64 39, .int .i64 14, .int .i64 18, .int .i64 41, .int .u64 ((s.a + X.a).toNat : Int), .int .u64 ((s.b + X.b).toNat : Int), .int .u64 ((s.c + X.c).toNat : Int), .int .u64 ((s.d + X.d).toNat : Int), .int .u64 ((s.e + X.e).toNat : Int), .int .u64 ((s.f + X.f).toNat : Int), .int .u64 ((s.g).toNat : Int), .int .u64 ((s.h).toNat : Int)] := hb14
        refine a6 (a9 [(0, _), (10, _), (186, _)] ⟨rfl, rfl, rfl, trivial⟩ (bf (aZ (a7 (bC (j := 6) (ay rfl rfl) (by decide)) rfl (ogm rfl rfl (a6 (cF (a5 ?_))))))))
        refine aZ (a7 (bg rfl rfl) rfl (a6 (a5 (bd rfl (by decide) (ag (a5 (ab (a5 ?_))))))))
        refine aZ (ogm rfl rfl (oga rfl rfl (a6 (bO 12 [0, 1, 2, 3, 4, 5, 6, 7, 8, 9, 10, 11] [] [] [] mixed [(0, _), (16, _), (10, _), (186, _)] ⟨rfl, rfl, rfl, rfl, trivial⟩ (by decide +kernel) (by decide) (by decide) ?_ (fun x hx => by cases hx) rfl (fun w40 k36 => ?_)))))
        · intro q hq; cases hq
        obtain ⟨hbx, hb14⟩ := jp k36 hbx hb14
        replace hB := hB.trans k36.weak
        refine cA 0 rfl rfl rfl rfl rfl (cA 16 rfl rfl rfl rfl rfl (al 189 rfl rfl rfl rfl (fun W' kk => ce rfl) (al 191 rfl rfl rfl rfl (fun W' kk => ax 14 aG rfl dA (by decide) rfl rfl) (cm 190 192 rfl rfl rfl rfl rfl (fun W' kk => ar (14 + 6) aD af rfl rfl (by omega) (by omega)) (al 193 rfl rfl rfl rfl (fun W' kk => ah au rfl (Bk.sD hb14 kk) rfl) (cA 16 rfl rfl rfl rfl rfl (cm 10 195 rfl rfl rfl rfl rfl (fun W' kk => ar 6 aD af rfl rfl (by omega) (by omega)) (al 196 rfl rfl rfl rfl (fun W' kk => ah au rfl (Bk.sD hbx kk) rfl) ?_))))))))
        refine cm 194 197 rfl rfl rfl rfl rfl (fun W' kk => cO rfl rfl) (al 189 rfl rfl rfl rfl (fun W' kk => ce rfl) (al 199 rfl rfl rfl rfl (fun W' kk => ax 14 aG rfl dA (by decide) rfl rfl) (cC (fun w41 k37 => ?_))))
        obtain ⟨hbx, hb14⟩ := jp k37 hbx hb14
        replace hB := hB.trans k37.weak
        refine bP (a7 (ar (14 + 6) aD af rfl rfl (by omega) (by omega)) rfl (ae (ci af rfl rfl rfl hb14 rfl) ?_))
        rintro _ w42 ⟨hb15, k38, z15⟩
        replace hbx := hbx.keep k38 (nm (Ne.symm ne_p_b2))
        replace hB := hB.trans k38
        clear z15
        replace hb15 : Bk w42 p _ [.int .i64 64, .int .i64 80, .int .i64 1, .int .i64 8, .int .i64 7, .int .i64 19, .int .i64 61, .int .i64 6, .int .i64 28, .int .i64 34, .int .i64 39, .int .i64 14, .int .i64 18, .int .i64 41, .int .u64 ((s.a + X.a).toNat : Int), .int .u64 ((s.b + X.b).toNat : Int), .int .u64 ((s.c + X.c).toNat : Int), .int .u64 ((s.d + X.d).toNat : Int), .int .u64 ((s.e + X.e).toNat : Int), .int .u64 ((s.f + X.f).toNat : Int), .int .u64 ((s.g + X.g).toNat : Int), .int .u64 ((s.h).toNat : Int)] := hb15
        refine a6 (a9 [(0, _), (10, _), (186, _)] ⟨rfl, rfl, rfl, trivial⟩ (bf (aZ (a7 (bC (j := 7) (ay rfl rfl) (by decide)) rfl (ogm rfl rfl (a6 (cF (a5 ?_))))))))
        refine aZ (a7 (bg rfl rfl) rfl (a6 (a5 (bd rfl (by decide) (ag (a5 (ab (a5 ?_))))))))
        refine aZ (ogm rfl rfl (oga rfl rfl (a6 (bO 12 [0, 1, 2, 3, 4, 5, 6, 7, 8, 9, 10, 11] [] [] [] mixed [(0, _), (16, _), (10, _), (186, _)] ⟨rfl, rfl, rfl, rfl, trivial⟩ (by decide +kernel) (by decide) (by decide) ?_ (fun x hx => by cases hx) rfl (fun w43 k39 => ?_)))))
        · intro q hq; cases hq
        obtain ⟨hbx, hb15⟩ := jp k39 hbx hb15
        replace hB := hB.trans k39.weak
        refine cA 0 rfl rfl rfl rfl rfl (cA 16 rfl rfl rfl rfl rfl (al 189 rfl rfl rfl rfl (fun W' kk => ce rfl) (al 191 rfl rfl rfl rfl (fun W' kk => ax 14 aG rfl dA (by decide) rfl rfl) (cm 190 192 rfl rfl rfl rfl rfl (fun W' kk => ar (14 + 7) aD af rfl rfl (by omega) (by omega)) (al 193 rfl rfl rfl rfl (fun W' kk => ah au rfl (Bk.sD hb15 kk) rfl) (cA 16 rfl rfl rfl rfl rfl (cm 10 195 rfl rfl rfl rfl rfl (fun W' kk => ar 7 aD af rfl rfl (by omega) (by omega)) (al 196 rfl rfl rfl rfl (fun W' kk => ah au rfl (Bk.sD hbx kk) rfl) ?_))))))))
        refine cm 194 197 rfl rfl rfl rfl rfl (fun W' kk => cO rfl rfl) (al 189 rfl rfl rfl rfl (fun W' kk => ce rfl) (al 199 rfl rfl rfl rfl (fun W' kk => ax 14 aG rfl dA (by decide) rfl rfl) (cC (fun w44 k40 => ?_))))
        replace hb15 := hb15.sD k40
        replace hB := hB.trans k40.weak
        refine bP (a7 (ar (14 + 7) aD af rfl rfl (by omega) (by omega)) rfl (ae (ci af rfl rfl rfl hb15 rfl) ?_))
        rintro _ w45 ⟨hb16, k41, z16⟩
        replace hB := hB.trans k41
        clear z16
        replace hb16 : Bk w45 p _ [.int .i64 64, .int .i64 80, .int .i64 1, .int .i64 8, .int .i64 7, .int .i64 19, .int .i64 61, .int .i64 6, .int .i64 28, .int .i64 34, .int .i64 39, .int .i64 14, .int .i64 18, .int .i64 41, .int .u64 ((s.a + X.a).toNat : Int), .int .u64 ((s.b + X.b).toNat : Int), .int .u64 ((s.c + X.c).toNat : Int), .int .u64 ((s.d + X.d).toNat : Int), .int .u64 ((s.e + X.e).toNat : Int), .int .u64 ((s.f + X.f).toNat : Int), .int .u64 ((s.g + X.g).toNat : Int), .int .u64 ((s.h + X.h).toNat : Int)] := hb16
        refine a6 (a9 [(0, _), (10, _), (186, _)] ⟨rfl, rfl, rfl, trivial⟩ (bf (aZ (a7 (bC (j := 8) (ay rfl rfl) (by decide)) rfl (ogm rfl rfl (a6 (cF (a5 ?_))))))))
        refine aZ (a7 (bg rfl rfl) rfl (a6 (a5 (ck rfl (by decide) (bF rfl (tw_end0 hfin Tryz.results102 ?_))))))
        obtain rfl : i = 80 := by omega
        subst hX
        exact ⟨rfl, hb16, hB⟩
theorem rM (X : S8 64) (i : Nat) : (((eR X).take i).flatMap fun x => be (x.toNat : Int) 8).length ≤ 64 := by
  have h : ∀ l : List (BitVec 64), (l.flatMap fun x => be (x.toNat : Int) 8).length = 8 * l.length := by
    intro l
    induction l with
    | nil => rfl
    | cons x r ih => rw [List.flatMap_cons, List.length_append, ih, dG, List.length_cons]; omega
  rw [h, List.length_take]; have : (eR X).length = 8 := rfl; omega
theorem lB {v : Value} {l h s : Nat} {x : Nat} (hx : x ∈ vblk (cut v l h s)) : x ∈ vblk v := by
 cases v with
 | slice a n c =>
   cases a with
   | none => simp [cut, vblk] at hx
   | some a =>
     simp only [cut] at hx
     split at hx
     · exact hx
     · simp only [Option.map_some, vblk, List.mem_singleton] at hx ⊢
       rw [hx]; unfold Addr.add; split <;> rfl
 | _ => exact hx
theorem sum_any (v : Value) (xs : List UInt8) (w : World) (hT : Tabs w) (hv : RdB w v xs) (hx : xs.length ≤ 140737488354000) : Rets Tryz.prog 81 [.agg [.int .i64 64, .int .i64 80, .int .i64 1, .int .i64 8, .int .i64 7, .int .i64 19, .int .i64 61, .int .i64 6, .int .i64 28, .int .i64 34, .int .i64 39, .int .i64 14, .int .i64 18, .int .i64 41].toArray, v] w (fun r w' => OwnB w' w.heap.size r (Sha.sum cS Kl Hl xs) ∧ Keep [] w w') := by
 have hB : Keep [] w w := Keep.refl _ _
 have hz := iZ (n := 64) (len := xs.length) (by decide) (by decide)
 refine ac Tryz.func81 rfl (by decide) Tryz.ntmps81 rfl (fun fin _ hfin => a5 (aZ (ad (bZ (cs := [.int .i64 64, .int .i64 80, .int .i64 1, .int .i64 8, .int .i64 7, .int .i64 19, .int .i64 61, .int .i64 6, .int .i64 28, .int .i64 34, .int .i64 39, .int .i64 14, .int .i64 18, .int .i64 41]) rfl rfl) rfl ?_)))
 rintro _ w1 ⟨b1, rfl, eb1, hb1, k1, z1⟩
 replace hB := hB.trans k1
 clear eb1 z1
 refine oga rfl rfl (a6 (a5 (aZ (a7 (aa (cs' := [_, _, _, _, _, _, _, _, _, _, _, _, _, _]) ry eQ rfl hb1 rfl rfl) rfl (ad (a8 (vs := [_]) rfl (kT _ (hT.sD hB))) rfl ?_)))))
 rintro _ w2 ⟨rfl, k2⟩
 obtain ⟨hB, hb1⟩ := bL k2 hB hb1
 refine ad (aj ga) rfl ?_
 rintro _ w3 ⟨b2, rfl, eb2, hb2, k3, z2⟩
 have ge_b2 : w.heap.size ≤ b2 := by have := hB.size; omega
 have ne_b1_b2 : b1 ≠ b2 := by have := hb1.lt; omega
 obtain ⟨hB, hb1⟩ := bL k3 hB hb1
 clear eb2 z2
 refine ae (bB ga rfl rfl rfl (by simp only [List.forall_mem_cons]; refine ⟨rfl, rfl, rfl, rfl, rfl, rfl, rfl, rfl, rfl, rfl, rfl, rfl, rfl, rfl, rfl, rfl, rfl, rfl, rfl, rfl, rfl, rfl, fun v hv => by cases hv⟩) hb2 rfl) ?_
 rintro _ w4 ⟨hb3, k4, z3⟩
 replace hb1 := hb1.keep k4 (nm ne_b1_b2)
 replace hB := hB.new k4 (nw ge_b2)
 clear z3
 replace hb3 : Bk w4 b2 _ [.int .i64 64, .int .i64 80, .int .i64 1, .int .i64 8, .int .i64 7, .int .i64 19, .int .i64 61, .int .i64 6, .int .i64 28, .int .i64 34, .int .i64 39, .int .i64 14, .int .i64 18, .int .i64 41, .int .u64 ((cst 64 Hl 0).toNat : Int), .int .u64 ((cst 64 Hl 1).toNat : Int), .int .u64 ((cst 64 Hl 2).toNat : Int), .int .u64 ((cst 64 Hl 3).toNat : Int), .int .u64 ((cst 64 Hl 4).toNat : Int), .int .u64 ((cst 64 Hl 5).toNat : Int), .int .u64 ((cst 64 Hl 6).toNat : Int), .int .u64 ((cst 64 Hl 7).toNat : Int)] := hb3
 refine a6 (a5 (aZ (a7 (ax 0 aJ rfl cj (by decide) rfl rfl) rfl (a7 (ah dl rfl hb1 rfl) rfl (a7 (bC (j := 128) (dX rfl rfl) (by decide)) rfl (oga rfl rfl (a6 (a5 (aZ (ogm rfl rfl (a7 (cH aA rfl (by first | assumption | exact Own.rd ‹_› | exact Rd.sD ‹_› hB | exact Own.rd (Own.sD ‹_› hB))) rfl (a7 (cT (v' := .int .u64 (xs.length : Int)) (ef (by rw [aK]; rfl) aM rfl) (by rw [fQ, Int.emod_eq_of_lt (by omega) (by omega)])) rfl (a7 (cT (v' := .int .u64 (8 * (xs.length : Int))) (dX rfl rfl) (by rw [fQ, Int.emod_eq_of_lt (by omega) (by omega), Int.mul_comm])) rfl (oga rfl rfl (a6 (a9 [(1, _), (2, _), (5, _), (6, _), (7, _)] ⟨rfl, rfl, rfl, rfl, rfl, trivial⟩ (a5 (aZ (ogm rfl rfl (ogm rfl rfl (a7 (cH aA rfl (by first | assumption | exact Own.rd ‹_› | exact Rd.sD ‹_› hB | exact Own.rd (Own.sD ‹_› hB))) rfl (ogm rfl rfl (a7 (cH aA rfl (by first | assumption | exact Own.rd ‹_› | exact Rd.sD ‹_› hB | exact Own.rd (Own.sD ‹_› hB))) rfl ?_)))))))))))))))))))))))
 obtain ⟨A, cp, hve, _⟩ := id hv
 obtain ⟨u, hu⟩ : ∃ u, u = Value.slice (if ((xs.length : Int)).toNat = 0 then A else A.map (·.add (0 * 1))) ((xs.length : Int)).toNat ((xs.length : Int)).toNat := ⟨_, rfl⟩
 have hru : RdB w4 u xs := by rw [hu]; exact rd_full (c := cp) (by rw [← hve]; exact hv.sD hB)
 have hcu : vcap u = xs.length := by rw [hu]; rfl
 have hcp : xs.length ≤ cp := by obtain ⟨A', c', hv', h2, _⟩ := hv; rw [hve] at hv'; cases hv'; exact h2
 refine a7 (cT (v' := u) (g_sl3 aA cf (congrArg some hve) rfl rfl ⟨by omega, by omega, by omega⟩) hu.symm) rfl (ad (eO (m := 1) (xs := [.const (.int .u8 (128))]) (vs := [_]) aA cf (by decide) rfl rfl rfl (by first | (simp; done) | (intro v hv; rw [List.mem_singleton] at hv; subst hv; rfl)) (by decide)) rfl ?_)
 rintro v1 w5 ⟨o1, nn1, lb1, k5, z4⟩
 obtain ⟨hB, hb1, hb3⟩ := cc k5 hB hb1 hb3
 replace o1 : Own w5 _ _ 1 v1 1 (bv [128]) := o1
 refine ad (d_appF (lo := w.heap.size) aA cf rfl (by first | exact hru | exact hru.sD ‹_›) hcu rfl (show RdB _ _ [128] from o1.rd) (by decide) (by simp only [List.length_singleton]; omega) (by have := hB.size; omega)) rfl ?_
 rintro q w6 ⟨oq, k6, hlb⟩
 replace oq : OwnB w6 w.heap.size q (xs ++ 128 :: List.replicate 0 0) := by unfold OwnB; rw [List.length_append]; exact oq
 have sbq_b1 := fun x hx => (show x ≠ b1 from by have h1 := hlb x hx; have h2 := hb1.lt; omega)
 have sbq_b2 := fun x hx => (show x ≠ b2 from by have h1 := hlb x hx; have h2 := hb3.lt; omega)
 obtain ⟨hB, hb1, hb3⟩ := cc k6 hB hb1 hb3
 refine oga rfl rfl (a6 (a5 (ab (bT (Γ := Nat × Value) (fun ⟨j, o⟩ => [(1, o), (2, .pointer (some ⟨b1, 0, none⟩)), (5, .pointer (some ⟨b2, 0, none⟩)), (6, .int .i64 128), (7, .int .u64 (8 * (xs.length : Int)))]) (fun ⟨j, o⟩ W => j ≤ zs 64 xs.length ∧ OwnB W w.heap.size o (xs ++ 128 :: List.replicate j 0) ∧ (∀ x, x ∈ vblk o → x ≠ b1 ∧ x ≠ b2) ∧ Bk W b1 113 [.int .i64 64, .int .i64 80, .int .i64 1, .int .i64 8, .int .i64 7, .int .i64 19, .int .i64 61, .int .i64 6, .int .i64 28, .int .i64 34, .int .i64 39, .int .i64 14, .int .i64 18, .int .i64 41] ∧ Bk W b2 133 [.int .i64 64, .int .i64 80, .int .i64 1, .int .i64 8, .int .i64 7, .int .i64 19, .int .i64 61, .int .i64 6, .int .i64 28, .int .i64 34, .int .i64 39, .int .i64 14, .int .i64 18, .int .i64 41, .int .u64 ((cst 64 Hl 0).toNat : Int), .int .u64 ((cst 64 Hl 1).toNat : Int), .int .u64 ((cst 64 Hl 2).toNat : Int), .int .u64 ((cst 64 Hl 3).toNat : Int), .int .u64 ((cst 64 Hl 4).toNat : Int), .int .u64 ((cst 64 Hl 5).toNat : Int), .int .u64 ((cst 64 Hl 6).toNat : Int), .int .u64 ((cst 64 Hl 7).toNat : Int)] ∧ Keep [] w W) (fun ⟨j, o⟩ => zs 64 xs.length - j) ⟨0, q⟩ ⟨rfl, rfl, rfl, rfl, rfl, trivial⟩ (⟨by omega, oq, fun x hx => ⟨sbq_b1 x hx, sbq_b2 x hx⟩, hb1, hb3, hB⟩) ?_))))
 rintro ⟨j, o⟩ w7 ⟨hj0, ow, hno, hbp, hbs, hB⟩
 refine a9 [(1, o), (2, .pointer (some ⟨b1, 0, none⟩)), (5, .pointer (some ⟨b2, 0, none⟩)), (6, .int .i64 128), (7, .int .u64 (8 * (xs.length : Int)))] ⟨rfl, rfl, rfl, rfl, rfl, trivial⟩ ?_
 have hlo : (xs ++ 128 :: List.replicate j 0).length = xs.length + 1 + j := by rw [List.length_append, List.length_cons, List.length_replicate]; omega
 have sbo_b1 := fun x hx => (hno x hx).1
 have sbo_b2 := fun x hx => (hno x hx).2
 refine a5 (a5 (aZ (ogm rfl rfl (a7 (cT (v' := .int .i64 ((xs.length + 1 + j : Nat) : Int)) (cH aA rfl ow.rd) (by rw [hlo])) rfl (ogm rfl rfl (a7 (fL rfl rfl (by omega)) rfl (ogm rfl rfl (ogm rfl rfl (a7 (bC (j := 16) (er rfl rfl (by decide)) (by decide)) rfl (a7 (bC (j := 112) (cX rfl rfl) (by decide)) rfl (a7 (eU rfl rfl) rfl (a6 (ba rfl (fun hc1 => ?_) (fun hc1 => ?_))))))))))))))
 ·
  refine ag (ab (aZ (ogm rfl rfl (ad (eO (m := 1) (xs := [.const (.int .u8 (0))]) (vs := [_]) aA cf (by decide) rfl rfl rfl (by first | (simp; done) | (intro v hv; rw [List.mem_singleton] at hv; subst hv; rfl)) (by decide)) rfl ?_))))
  rintro v2 w8 ⟨o2, nn2, lb2, k7, z5⟩
  replace ow := ow.sD k7
  obtain ⟨hB, hbp, hbs⟩ := cc k7 hB hbp hbs
  replace o2 : Own w8 _ _ 1 v2 1 (bv [0]) := o2
  have lt2_o3 := hbp.lt
  have lt5_o3 := hbs.lt
  refine ad (eI aA cf rfl ow rfl (show RdB _ _ [0] from o2.rd) (by rw [hlo]; simp only [List.length_singleton]; omega) (by have := hB.size; omega)) rfl ?_
  rintro v3 w9 ⟨o3, k8, lb3, _⟩
  replace hB := hB.new k8 (fun x hx => .inl (ow.blk x hx).1)
  replace hbp := hbp.keep k8 (fun hm => sbo_b1 _ hm rfl)
  have sb2_o3 := fun x hx => (lb3 x hx).elim (sbo_b1 x) (fun h => (show x ≠ b1 from by omega))
  replace hbs := hbs.keep k8 (fun hm => sbo_b2 _ hm rfl)
  have sb5_o3 := fun x hx => (lb3 x hx).elim (sbo_b2 x) (fun h => (show x ≠ b2 from by omega))
  refine oga rfl rfl (a6 (a9 [(1, _), (2, _), (5, _), (6, _), (7, _)] ⟨rfl, rfl, rfl, rfl, rfl, trivial⟩ (bf (bX (Γ := Nat × Value) ⟨j + 1, v3⟩ ⟨rfl, rfl, rfl, rfl, rfl, trivial⟩ (by (try dsimp only); omega) (⟨by omega, by unfold OwnB; rw [zstep, List.length_append]; exact o3, (fun x hx => ⟨sb2_o3 x hx, sb5_o3 x hx⟩), hbp, hbs, hB⟩)))))
 ·
  refine bF rfl (a5 (aZ (ogm rfl rfl (ogm rfl rfl (a7 (bC (j := 16) (er rfl rfl (by decide)) (by decide)) rfl (a7 (bC (j := 8) (cX rfl rfl) (by decide)) rfl ?_))))))
  obtain rfl : j = zs 64 xs.length := by omega
  have lt2_o4 := hbp.lt
  have lt5_o4 := hbs.lt
  refine ad (d_appZo aA aK cf rfl ow (by simp) rfl (by decide) (by rw [hlo]; omega) (by have := hB.size; omega)) rfl ?_
  rintro v4 w10 ⟨o4, k9, lb4⟩
  replace hB := hB.new k9 (fun x hx => .inl (ow.blk x hx).1)
  replace hbp := hbp.keep k9 (fun hm => sbo_b1 _ hm rfl)
  have sb2_o4 := fun x hx => (lb4 x hx).elim (sbo_b1 x) (fun h => (show x ≠ b1 from by omega))
  replace hbs := hbs.keep k9 (fun hm => sbo_b2 _ hm rfl)
  have sb5_o4 := fun x hx => (lb4 x hx).elim (sbo_b2 x) (fun h => (show x ≠ b2 from by omega))
  replace o4 : OwnB w10 w.heap.size v4 ((xs ++ 128 :: List.replicate (zs 64 xs.length) 0) ++ List.replicate 8 0) := by unfold OwnB; rw [List.length_append]; exact o4
  have hlz : ((xs ++ 128 :: List.replicate (zs 64 xs.length) 0) ++ List.replicate 8 0).length = xs.length + 9 + zs 64 xs.length := by rw [List.length_append, hlo, List.length_replicate]; omega
  refine oga rfl rfl (a6 (a9 [(1, _), (2, _), (5, _), (6, _), (7, _)] ⟨rfl, rfl, rfl, rfl, rfl, trivial⟩ (a5 (a5 (aZ (oga rfl rfl (a6 (ab ?_))))))))
  obtain ⟨pz, hpz⟩ : ∃ pz, pz = (xs ++ 128 :: List.replicate (zs 64 xs.length) 0) ++ List.replicate 8 0 := ⟨_, rfl⟩
  rw [← hpz] at o4 hlz
  refine bT (Γ := Nat × Value) (fun ⟨j, u⟩ => [(1, u), (2, .pointer (some ⟨b1, 0, none⟩)), (5, .pointer (some ⟨b2, 0, none⟩)), (6, .int .i64 128), (7, .int .u64 (8 * (xs.length : Int))), (8, .int .i64 (56 - 8 * (j : Int)))]) (fun ⟨j, u⟩ W => j ≤ 8 ∧ OwnB W w.heap.size u (pz ++ (be (8 * (xs.length : Int)) 8).take j) ∧ (∀ x, x ∈ vblk u → x ≠ b1 ∧ x ≠ b2) ∧ Bk W b1 113 [.int .i64 64, .int .i64 80, .int .i64 1, .int .i64 8, .int .i64 7, .int .i64 19, .int .i64 61, .int .i64 6, .int .i64 28, .int .i64 34, .int .i64 39, .int .i64 14, .int .i64 18, .int .i64 41] ∧ Bk W b2 133 [.int .i64 64, .int .i64 80, .int .i64 1, .int .i64 8, .int .i64 7, .int .i64 19, .int .i64 61, .int .i64 6, .int .i64 28, .int .i64 34, .int .i64 39, .int .i64 14, .int .i64 18, .int .i64 41, .int .u64 ((cst 64 Hl 0).toNat : Int), .int .u64 ((cst 64 Hl 1).toNat : Int), .int .u64 ((cst 64 Hl 2).toNat : Int), .int .u64 ((cst 64 Hl 3).toNat : Int), .int .u64 ((cst 64 Hl 4).toNat : Int), .int .u64 ((cst 64 Hl 5).toNat : Int), .int .u64 ((cst 64 Hl 6).toNat : Int), .int .u64 ((cst 64 Hl 7).toNat : Int)] ∧ Keep [] w W) (fun ⟨j, u⟩ => 8 - j) ⟨0, _⟩ ⟨rfl, rfl, rfl, rfl, rfl, rfl, trivial⟩ (⟨by omega, by rw [List.take_zero, List.append_nil]; exact o4, fun x hx => ⟨sb2_o4 x hx, sb5_o4 x hx⟩, hbp, hbs, hB⟩) ?_
  rintro ⟨j, u⟩ w11 ⟨hj0, ow, hno, hbp, hbs, hB⟩
  refine a9 [(1, u), (2, .pointer (some ⟨b1, 0, none⟩)), (5, .pointer (some ⟨b2, 0, none⟩)), (6, .int .i64 128), (7, .int .u64 (8 * (xs.length : Int))), (8, .int .i64 (56 - 8 * (j : Int)))] ⟨rfl, rfl, rfl, rfl, rfl, rfl, trivial⟩ ?_
  have hlj : (pz ++ (be (8 * (xs.length : Int)) 8).take j).length = xs.length + 9 + zs 64 xs.length + j := by rw [List.length_append, hlz, List.length_take, dG]; omega
  have sbo_b1 := fun x hx => (hno x hx).1
  have sbo_b2 := fun x hx => (hno x hx).2
  refine a5 (a5 (aZ (ogm rfl rfl (a7 (j7 rfl rfl) rfl (a6 (ba rfl (fun hc2 => ?_) (fun hc2 => ?_)))))))
  ·
   refine ag (a5 (ab (aZ (ogm rfl rfl (ogm rfl rfl (ogm rfl rfl (a7 (fb rfl rfl ⟨by omega, (show _ ≤ ((64 : Nat) : Int) from by omega)⟩) rfl (a7 (ef (by rw [aM]; rfl) aH rfl) rfl (ad (eO (m := 1) (xs := [.tmp 55]) (vs := [_]) aA cf (by decide) rfl rfl rfl (by first | (simp; done) | (intro v hv; rw [List.mem_singleton] at hv; subst hv; rfl)) (by decide)) rfl ?_)))))))))
   rintro v5 w12 ⟨o5, nn3, lb5, k10, z6⟩
   replace ow := ow.sD k10
   obtain ⟨hB, hbp, hbs⟩ := cc k10 hB hbp hbs
   have hby : IntKind.u8.wrap ((8 * (xs.length : Int)) / 2 ^ (56 - 8 * (j : Int)).toNat) = ((byteAt (8 * (xs.length : Int)) (7 - j)).toNat : Int) := by rw [ej, IntKind.wrap_u8]; congr 3; omega
   replace o5 := gm o5 hby
   have e1 : (be (8 * (xs.length : Int)) 8).take (j + 1) = (be (8 * (xs.length : Int)) 8).take j ++ [byteAt (8 * (xs.length : Int)) (7 - j)] := dy (by simp only [be, List.getElem?_map]; rw [List.getElem?_range (by omega)]; rfl)
   have lt2_o6 := hbp.lt
   have lt5_o6 := hbs.lt
   refine ad (eI aA cf rfl ow rfl (show RdB _ _ [byteAt (8 * (xs.length : Int)) (7 - j)] from o5.rd) (by rw [hlj]; simp only [List.length_singleton]; omega) (by have := hB.size; omega)) rfl ?_
   rintro v6 w13 ⟨o6, k11, lb6, _⟩
   replace hB := hB.new k11 (fun x hx => .inl (ow.blk x hx).1)
   replace hbp := hbp.keep k11 (fun hm => sbo_b1 _ hm rfl)
   have sb2_o6 := fun x hx => (lb6 x hx).elim (sbo_b1 x) (fun h => (show x ≠ b1 from by omega))
   replace hbs := hbs.keep k11 (fun hm => sbo_b2 _ hm rfl)
   have sb5_o6 := fun x hx => (lb6 x hx).elim (sbo_b2 x) (fun h => (show x ≠ b2 from by omega))
   replace o6 : OwnB w13 w.heap.size v6 (pz ++ (be (8 * (xs.length : Int)) 8).take (j + 1)) := by rw [e1, ← List.append_assoc]; unfold OwnB; rw [List.length_append]; exact o6
   refine oga rfl rfl (a6 (bf (aZ (ogm rfl rfl (a7 (cT (v' := .int .i64 (56 - 8 * ((j + 1 : Nat) : Int))) (cy rfl rfl (by omega)) (by congr 1; omega)) rfl (oga rfl rfl (a6 (a9 [(1, _), (2, _), (5, _), (6, _), (7, _), (8, _)] ⟨rfl, rfl, rfl, rfl, rfl, rfl, trivial⟩ (bX (Γ := Nat × Value) ⟨j + 1, v6⟩ ⟨rfl, rfl, rfl, rfl, rfl, rfl, trivial⟩ (by (try dsimp only); omega) (⟨by omega, o6, (fun x hx => ⟨sb2_o6 x hx, sb5_o6 x hx⟩), hbp, hbs, hB⟩))))))))))
  ·
   refine bF rfl (a5 (ab ?_))
   obtain rfl : j = 8 := by omega
   have hpad : (pad 64 xs) = pz ++ (be (8 * (xs.length : Int)) 8).take 8 := by rw [hpz, q8, List.take_of_length_le (by rw [dG]; exact Nat.le_refl _)]
   have hru0 := ow.rd
   rw [← hpad] at hru0
   have hPM := jA xs; have hPL := q7 xs
   obtain ⟨M, hM⟩ : ∃ M, M = ((pad 64 xs).length / (2 * 64)) := ⟨_, rfl⟩
   rw [← hM] at hPM
   refine bT (Γ := Nat × S8 64 × Value) (fun ⟨m, X, u⟩ => [(1, u), (2, .pointer (some ⟨b1, 0, none⟩)), (5, .pointer (some ⟨b2, 0, none⟩)), (6, .int .i64 128)]) (fun ⟨m, X, u⟩ W => m ≤ M ∧ blks cS Kl (M - m) ((pad 64 xs).drop (128 * m)) X = blks cS Kl M (pad 64 xs) (st8 64 Hl) ∧ RdB W u ((pad 64 xs).drop (128 * m)) ∧ (∀ x, x ∈ vblk u → x ≠ b2) ∧ Bk W b1 113 [.int .i64 64, .int .i64 80, .int .i64 1, .int .i64 8, .int .i64 7, .int .i64 19, .int .i64 61, .int .i64 6, .int .i64 28, .int .i64 34, .int .i64 39, .int .i64 14, .int .i64 18, .int .i64 41] ∧ Bk W b2 133 [.int .i64 64, .int .i64 80, .int .i64 1, .int .i64 8, .int .i64 7, .int .i64 19, .int .i64 61, .int .i64 6, .int .i64 28, .int .i64 34, .int .i64 39, .int .i64 14, .int .i64 18, .int .i64 41, .int .u64 ((X.a).toNat : Int), .int .u64 ((X.b).toNat : Int), .int .u64 ((X.c).toNat : Int), .int .u64 ((X.d).toNat : Int), .int .u64 ((X.e).toNat : Int), .int .u64 ((X.f).toNat : Int), .int .u64 ((X.g).toNat : Int), .int .u64 ((X.h).toNat : Int)] ∧ Keep [] w W) (fun ⟨m, X, u⟩ => M - m) ⟨0, st8 64 Hl, _⟩ ⟨rfl, rfl, rfl, rfl, trivial⟩ (⟨by omega, rfl, hru0, fun x hx => sbo_b2 x hx, hbp, hbs, hB⟩) ?_
   rintro ⟨m, X, u⟩ w14 ⟨hm0, heq, hru, hnu, hbp, hbs, hB⟩
   refine a9 [(1, u), (2, .pointer (some ⟨b1, 0, none⟩)), (5, .pointer (some ⟨b2, 0, none⟩)), (6, .int .i64 128)] ⟨rfl, rfl, rfl, rfl, trivial⟩ ?_
   have hcu := hru.vcap
   have hlu : ((pad 64 xs).drop (128 * m)).length = (pad 64 xs).length - 128 * m := List.length_drop
   refine a5 (a5 (aZ (ogm rfl rfl (a7 (cT (v' := .int .i64 (((pad 64 xs).length - 128 * m : Nat) : Int)) (cH aA rfl hru) (by rw [hlu])) rfl (a7 (mt rfl rfl) rfl (a6 (ba rfl (fun hc3 => ?_) (fun hc3 => ?_))))))))
   ·
    refine ag (ab (a5 (aZ (ogm rfl rfl (ogm rfl rfl ?_)))))
    have hge : 128 ≤ (pad 64 xs).length - 128 * m := by omega
    refine a7 (cT (v' := cut u 0 128 1) (gM aA cf rfl hru (.inl ⟨rfl, rfl⟩) (.inr ⟨_, _, rfl, rfl⟩) ⟨by omega, by omega, by omega⟩) rfl) rfl ?_
    have hck : RdB w14 (cut u 0 128 1) (((pad 64 xs).drop (128 * m)).take 128) := by have := hru.cutB (l := 0) (hi := 128) (by omega) (by rw [hlu]; omega); simpa using this
    have hcl : (((pad 64 xs).drop (128 * m)).take 128).length = 128 := by rw [List.length_take, hlu]; omega
    refine ad (a8 (vs := [_, _]) rfl (p5 b2 _ (((pad 64 xs).drop (128 * m)).take 128) X _ (hT.sD hB) hck hcl (by have := hT.two; omega) (fun x hx hm => hnu x (oE hx) (List.mem_singleton.1 hm)) hbs)) rfl ?_
    rintro _ w15 ⟨rfl, hb4, k12⟩
    have hru2 := hru.keep k12 (fun x hx hm => hnu x hx (List.mem_singleton.1 hm))
    replace hbp := hbp.keep k12 (nm ne_b1_b2)
    replace hB := hB.new k12 (nw ge_b2)
    refine a6 (aZ (ogm rfl rfl (ogm rfl rfl (a7 (cT (v' := cut u 128 ((pad 64 xs).drop (128 * m)).length 1) (gM aA cf rfl hru2 (.inr ⟨_, _, rfl, rfl⟩) (.inl ⟨rfl, rfl⟩) ⟨by omega, by rw [hlu]; omega, by omega⟩) (by rw [Int.toNat_natCast]; rfl)) rfl ?_))))
    have hru3 : RdB w15 (cut u 128 ((pad 64 xs).drop (128 * m)).length 1) ((pad 64 xs).drop (128 * (m + 1))) := by have := hru2.cutB (l := 128) (hi := ((pad 64 xs).drop (128 * m)).length) (by rw [hlu]; omega) (Nat.le_refl _); rw [List.take_of_length_le (by rw [List.length_drop]; omega), List.drop_drop] at this; exact this
    have hnu3 : ∀ x, x ∈ vblk (cut u 128 ((pad 64 xs).drop (128 * m)).length 1) → x ≠ b2 := fun x hx => hnu x (lB hx)
    refine oga rfl rfl (a6 (a9 [(1, _), (2, _), (5, _), (6, _)] ⟨rfl, rfl, rfl, rfl, trivial⟩ (bf (bX (Γ := Nat × S8 64 × Value) ⟨m + 1, blk cS Kl (((pad 64 xs).drop (128 * m)).take 128) X, _⟩ ⟨rfl, rfl, rfl, rfl, trivial⟩ (by (try dsimp only); omega) (⟨by omega, by rw [← heq, jx (show 0 < M - m from by omega), List.drop_drop]; rfl, hru3, hnu3, hbp, hb4, hB⟩)))))
   ·
    refine bF rfl (a5 (aZ (oga rfl rfl (a6 (a5 (a5 (aZ (a7 (ax 14 aG rfl dA (by decide) rfl rfl) rfl (a7 (aa (cs' := [_, _, _, _, _, _, _, _]) rx dA rfl hbs rfl rfl) rfl (ogm rfl rfl (a6 (ab ?_))))))))))))
    obtain rfl : m = M := by omega
    rw [Nat.sub_self] at heq
    refine bT (Γ := Nat × Value) (fun ⟨i, o⟩ => [(2, .pointer (some ⟨b1, 0, none⟩)), (9, o), (69, .agg [.int .u64 ((X.a).toNat : Int), .int .u64 ((X.b).toNat : Int), .int .u64 ((X.c).toNat : Int), .int .u64 ((X.d).toNat : Int), .int .u64 ((X.e).toNat : Int), .int .u64 ((X.f).toNat : Int), .int .u64 ((X.g).toNat : Int), .int .u64 ((X.h).toNat : Int)].toArray), (70, .int .i64 (i : Int))]) (fun ⟨i, o⟩ W => i ≤ 8 ∧ OwnB W w.heap.size o (((eR X).take i).flatMap fun x => be (x.toNat : Int) 8) ∧ (∀ x, x ∈ vblk o → x ≠ b1) ∧ Bk W b1 113 [.int .i64 64, .int .i64 80, .int .i64 1, .int .i64 8, .int .i64 7, .int .i64 19, .int .i64 61, .int .i64 6, .int .i64 28, .int .i64 34, .int .i64 39, .int .i64 14, .int .i64 18, .int .i64 41] ∧ Keep [] w W) (fun ⟨i, o⟩ => 8 - i) ⟨0, .slice none 0 0⟩ ⟨rfl, rfl, rfl, rfl, trivial⟩ (⟨by omega, dO _ _ _ _, fun x hx => (by cases hx), hbp, hB⟩) ?_
    rintro ⟨i, o⟩ w16 ⟨hi0, ow, hno, hbp, hB⟩
    refine a9 [(2, .pointer (some ⟨b1, 0, none⟩)), (9, o), (69, .agg [.int .u64 ((X.a).toNat : Int), .int .u64 ((X.b).toNat : Int), .int .u64 ((X.c).toNat : Int), .int .u64 ((X.d).toNat : Int), .int .u64 ((X.e).toNat : Int), .int .u64 ((X.f).toNat : Int), .int .u64 ((X.g).toNat : Int), .int .u64 ((X.h).toNat : Int)].toArray), (70, .int .i64 (i : Int))] ⟨rfl, rfl, rfl, rfl, trivial⟩ ?_
    have hfl : (((eR X).take i).flatMap fun x => be (x.toNat : Int) 8).length ≤ 64 := rM X i
    refine a5 (aZ (a7 (bg rfl rfl) rfl (a6 (a5 (ba rfl (fun hc4 => ?_) (fun hc4 => ?_))))))
    ·
     refine ag (a5 (ab (a5 (aZ ?_))))
     obtain ⟨x, hx⟩ : ∃ x, (eR X)[i]? = some x := ⟨_, List.getElem?_eq_getElem (show i < (eR X).length from by show i < 8; omega)⟩
     refine a7 (cT (v' := .int .u64 ((x).toNat : Int)) (gP (cs := iv .u64 8 (wN (eR X))) aD af au rfl rfl (by omega) (bM (by omega))) (by rw [Int.toNat_natCast]; unfold wN; rw [List.getD_eq_getElem?_getD, hx]; rfl)) rfl ?_
     refine oga rfl rfl (a6 (a5 (aZ (a7 (ax 0 aJ rfl cj (by decide) rfl rfl) rfl (a7 (ah dl rfl hbp rfl) rfl (a7 (bC (j := 56) (cX rfl rfl) (by decide)) rfl (oga rfl rfl (a6 (ab (bT (Γ := Nat × Value) (fun ⟨j, o'⟩ => [(2, .pointer (some ⟨b1, 0, none⟩)), (9, o'), (11, .int .u64 ((x).toNat : Int)), (12, .int .i64 (56 - 8 * (j : Int))), (69, .agg [.int .u64 ((X.a).toNat : Int), .int .u64 ((X.b).toNat : Int), .int .u64 ((X.c).toNat : Int), .int .u64 ((X.d).toNat : Int), .int .u64 ((X.e).toNat : Int), .int .u64 ((X.f).toNat : Int), .int .u64 ((X.g).toNat : Int), .int .u64 ((X.h).toNat : Int)].toArray), (70, .int .i64 (i : Int))]) (fun ⟨j, o'⟩ W => j ≤ 8 ∧ OwnB W w.heap.size o' ((((eR X).take i).flatMap fun x => be (x.toNat : Int) 8) ++ (be (x.toNat : Int) 8).take j) ∧ (∀ x, x ∈ vblk o' → x ≠ b1) ∧ Bk W b1 113 [.int .i64 64, .int .i64 80, .int .i64 1, .int .i64 8, .int .i64 7, .int .i64 19, .int .i64 61, .int .i64 6, .int .i64 28, .int .i64 34, .int .i64 39, .int .i64 14, .int .i64 18, .int .i64 41] ∧ Keep [] w W) (fun ⟨j, o'⟩ => 8 - j) ⟨0, o⟩ ⟨rfl, rfl, rfl, rfl, rfl, rfl, trivial⟩ (⟨by omega, by rw [List.take_zero, List.append_nil]; exact ow, hno, hbp, hB⟩) ?_))))))))))
     rintro ⟨j, o'⟩ w17 ⟨hj0, ow, hno, hbp, hB⟩
     refine a9 [(2, .pointer (some ⟨b1, 0, none⟩)), (9, o'), (11, .int .u64 ((x).toNat : Int)), (12, .int .i64 (56 - 8 * (j : Int))), (69, .agg [.int .u64 ((X.a).toNat : Int), .int .u64 ((X.b).toNat : Int), .int .u64 ((X.c).toNat : Int), .int .u64 ((X.d).toNat : Int), .int .u64 ((X.e).toNat : Int), .int .u64 ((X.f).toNat : Int), .int .u64 ((X.g).toNat : Int), .int .u64 ((X.h).toNat : Int)].toArray), (70, .int .i64 (i : Int))] ⟨rfl, rfl, rfl, rfl, rfl, rfl, trivial⟩ (a5 (a5 (aZ (ogm rfl rfl (a7 (j7 rfl rfl) rfl (a6 (ba rfl (fun hc5 => ?_) (fun hc5 => ?_))))))))
     ·
      refine ag (a5 (ab (aZ (ogm rfl rfl (ogm rfl rfl (ogm rfl rfl (a7 (fb rfl rfl (by constructor <;> (try simp only [IntKind.bits]) <;> omega)) rfl (a7 (ef (by rw [aM]; rfl) aH rfl) rfl (ad (eO (m := 1) (xs := [.tmp 84]) (vs := [_]) aA cf (by decide) rfl rfl rfl (by first | (simp; done) | (intro v hv; rw [List.mem_singleton] at hv; subst hv; rfl)) (by decide)) rfl ?_)))))))))
      rintro v7 w18 ⟨o7, nn4, lb7, k13, z7⟩
      replace ow := ow.sD k13
      obtain ⟨hB, hbp⟩ := bL k13 hB hbp
      have hby : IntKind.u8.wrap ((x.toNat : Int) / 2 ^ (56 - 8 * (j : Int)).toNat) = ((byteAt (x.toNat : Int) (7 - j)).toNat : Int) := by rw [ej, IntKind.wrap_u8]; congr 3; omega
      replace o7 := gm o7 hby
      have e1 : (be (x.toNat : Int) 8).take (j + 1) = (be (x.toNat : Int) 8).take j ++ [byteAt (x.toNat : Int) (7 - j)] := dy (by simp only [be, List.getElem?_map]; rw [List.getElem?_range (by omega)]; rfl)
      have hl8 : ((be (x.toNat : Int) 8).take j).length ≤ 8 := by rw [List.length_take, dG]; omega
      have lt_o8 := hbp.lt
      refine ad (eI aA cf rfl ow rfl (show RdB _ _ [byteAt (x.toNat : Int) (7 - j)] from o7.rd) (by simp only [List.length_append, List.length_singleton]; omega) (by have := hB.size; omega)) rfl ?_
      rintro v8 w19 ⟨o8, k14, lb8, _⟩
      replace hB := hB.new k14 (fun x hx => .inl (ow.blk x hx).1)
      replace hbp := hbp.keep k14 (fun hm => hno _ hm rfl)
      have sb_o8 := fun x hx => (lb8 x hx).elim (hno x) (fun h => (show x ≠ b1 from by omega))
      refine oga rfl rfl (a6 (bf (aZ (ogm rfl rfl (a7 (cT (v' := .int .i64 (56 - 8 * ((j + 1 : Nat) : Int))) (cy rfl rfl (by omega)) (by congr 1; omega)) rfl (oga rfl rfl (a6 (a9 [(2, _), (9, _), (11, _), (12, _), (69, _), (70, _)] ⟨rfl, rfl, rfl, rfl, rfl, rfl, trivial⟩ (bX (Γ := Nat × Value) ⟨j + 1, v8⟩ ⟨rfl, rfl, rfl, rfl, rfl, rfl, trivial⟩ (by (try dsimp only); omega) (⟨by omega, by rw [e1, ← List.append_assoc]; unfold OwnB; rw [List.length_append]; exact o8, sb_o8, hbp, hB⟩))))))))))
     ·
      refine bF rfl (bf (aZ (a7 (bo rfl rfl (by omega)) rfl (ogm rfl rfl (a6 ?_)))))
      obtain rfl : j = 8 := by omega
      rw [List.take_of_length_le (show (be (x.toNat : Int) 8).length ≤ 8 from by rw [dG]; exact Nat.le_refl _)] at ow
      refine bX (Γ := Nat × Value) ⟨i + 1, o'⟩ ⟨rfl, rfl, rfl, rfl, trivial⟩ (by (try dsimp only); omega) (⟨by omega, by rw [jP hx]; exact ow, hno, hbp, hB⟩)
    ·
     refine bF rfl (a5 (aZ (ogm rfl rfl (oga rfl rfl (a6 (bN hfin Tryz.results81 rfl ?_))))))
     obtain rfl : i = 8 := by omega
     rw [List.take_of_length_le (show (eR X).length ≤ 8 from Nat.le_refl 8)] at ow
     refine ⟨?_, hB⟩
     unfold Sha.sum
     rw [← hM, ← heq]
     exact ow
abbrev OwnW (w : World) (lo : Nat) (v : Value) (l : List (BitVec 64)) : Prop := Own w lo 47 1 v l.length (wc l)
theorem dH (z1 z2 z3 z4 z5 z6 : Value) (x : BitVec 64) (w : World) : Rets Tryz.prog 120 [.agg [.int .i64 64, z1, z2, z3, z4, z5, z6].toArray, .int .u64 ((x).toNat : Int)] w (fun v w' => v = .int .u64 ((x).toNat : Int) ∧ Keep [] w w') := by
 have hB : Keep [] w w := Keep.refl _ _
 refine ac Tryz.func120 rfl (by decide) Tryz.ntmps120 rfl (fun fin _ hfin => a5 (aZ (ad (bZ (cs := [.int .i64 64, z1, z2, z3, z4, z5, z6]) rfl rfl) rfl ?_)))
 rintro _ w1 ⟨b1, rfl, eb1, hb1, k1, z1⟩
 replace hB := hB.trans k1
 clear eb1 z1
 refine oga rfl rfl (a6 (a5 (a5 (aZ (a7 (ax 0 aN rfl cj (by decide) rfl rfl) rfl (a7 (ah dl rfl hb1 rfl) rfl (a7 (fW rfl rfl) rfl (a6 (ck rfl (by decide) (ag (a5 (aZ (ogm rfl rfl (oga rfl rfl (a6 (bN hfin Tryz.results120 rfl ?_))))))))))))))))
 exact ⟨rfl, hB⟩
theorem gj (z1 z2 z3 z4 z5 z6 : Value) (x : BitVec 64) (r : Nat) (hr : r ≤ 64) (w : World) : Rets Tryz.prog 125 [.agg [.int .i64 64, z1, z2, z3, z4, z5, z6].toArray, .int .u64 ((x).toNat : Int), .int .i64 (r : Int)] w (fun v w' => v = .int .u64 ((tn x r).toNat : Int) ∧ Keep [] w w') := by
 have hB : Keep [] w w := Keep.refl _ _
 refine ac Tryz.func125 rfl (by decide) Tryz.ntmps125 rfl (fun fin _ hfin => a5 (aZ (ad (bZ (cs := [.int .i64 64, z1, z2, z3, z4, z5, z6]) rfl rfl) rfl ?_)))
 rintro _ w1 ⟨b1, rfl, eb1, hb1, k1, z1⟩
 replace hB := hB.trans k1
 clear eb1 z1
 refine oga rfl rfl (a6 (a5 (aZ (a7 (aa (cs' := [_, _, _, _, _, _, _]) dL cx rfl hb1 rfl rfl) rfl (ogm rfl rfl (ogm rfl rfl (a7 (lw (by rw [aK]; rfl) aR rfl (by omega)) rfl (a7 (eG r rfl rfl rfl hr) rfl (ogm rfl rfl (a7 (ax 0 aN rfl cj (by decide) rfl rfl) rfl (a7 (ah dl rfl hb1 rfl) rfl (ogm rfl rfl (a7 (cy rfl rfl (by omega)) rfl (a7 (lw (by rw [aK]; rfl) aR rfl (by omega)) rfl (a7 (ke (64 - r) rfl rfl (by omega) (by omega)) rfl (a7 (nf rfl rfl) rfl ?_))))))))))))))))
 refine ad (a8 (vs := [_, _]) rfl (dH _ _ _ _ _ _ ((x >>> r) ||| (x <<< (64 - r))) _)) rfl ?_
 rintro _ w2 ⟨rfl, k2⟩
 replace hB := hB.trans k2
 refine oga rfl rfl (a6 (a9 [(6, _)] ⟨rfl, trivial⟩ (bN hfin Tryz.results125 rfl ?_)))
 exact ⟨rfl, hB⟩
theorem lZ (z1 z2 z3 z4 z5 z6 : Value) (x : BitVec 64) (v : Value) (a b c : Nat) (ha : a ≤ 64) (hb : b ≤ 64) (hc : c ≤ 64) (w : World) (hv : Rd w 1 v 3 [.int .i64 (a : Int), .int .i64 (b : Int), .int .i64 (c : Int)]) : Rets Tryz.prog 124 [.agg [.int .i64 64, z1, z2, z3, z4, z5, z6].toArray, .int .u64 ((x).toNat : Int), v] w (fun v w' => v = .int .u64 ((lo (a, b, c) x).toNat : Int) ∧ Keep [] w w') := by
 have hB : Keep [] w w := Keep.refl _ _
 refine ac Tryz.func124 rfl (by decide) Tryz.ntmps124 rfl (fun fin _ hfin => a5 (aZ (ad (bZ (cs := [.int .i64 64, z1, z2, z3, z4, z5, z6]) rfl rfl) rfl ?_)))
 rintro _ w1 ⟨b1, rfl, eb1, hb1, k1, z1⟩
 replace hB := hB.trans k1
 clear eb1 z1
 refine oga rfl rfl (a6 (a5 (bc 20 [0, 1, 2, 3, 4, 6, 7, 8, 9, 10, 13, 14, 15, 16, 17, 18, 5, 11, 12, 19] [5, 11] [] mixed [(3, _), (1, _), (2, _), (6, _)] ⟨rfl, rfl, rfl, rfl, trivial⟩ (by decide +kernel) rfl (fun w2 k2 => ?_))))
 obtain ⟨hB, hb1⟩ := bL k2 hB hb1
 refine am 3 rfl rfl rfl rfl (fun W' kk => aa (cs' := [_, _, _, _, _, _, _]) dL cx rfl (Bk.sD hb1 kk) rfl rfl) (bH 1 rfl rfl rfl rfl rfl (bH 2 rfl rfl rfl rfl rfl (am 9 rfl rfl rfl rfl (fun W' kk => bk aU cj rfl (by first | exact Rd.sD ‹_› kk | exact Rd.sD (Own.rd ‹_›) kk | exact Rd.sD (Rd.sD ‹_› hB) kk | exact Rd.sD (Own.rd (Own.sD ‹_› hB)) kk) rfl (by omega)) (am 10 rfl rfl rfl rfl (fun W' kk => eX dl rfl (by first | exact Rd.sD ‹_› kk | exact Rd.sD (Own.rd ‹_›) kk | exact Rd.sD (Rd.sD ‹_› hB) kk | exact Rd.sD (Own.rd (Own.sD ‹_› hB)) kk) rfl) (am 3 rfl rfl rfl rfl (fun W' kk => aa (cs' := [_, _, _, _, _, _, _]) dL cx rfl (Bk.sD hb1 kk) rfl rfl) (bH 1 rfl rfl rfl rfl rfl (bH 2 rfl rfl rfl rfl rfl (am 15 rfl rfl rfl rfl (fun W' kk => bk aU cj rfl (by first | exact Rd.sD ‹_› kk | exact Rd.sD (Own.rd ‹_›) kk | exact Rd.sD (Rd.sD ‹_› hB) kk | exact Rd.sD (Own.rd (Own.sD ‹_› hB)) kk) rfl (by omega)) ?_))))))))
 refine am 16 rfl rfl rfl rfl (fun W' kk => eX dl rfl (by first | exact Rd.sD ‹_› kk | exact Rd.sD (Own.rd ‹_›) kk | exact Rd.sD (Rd.sD ‹_› hB) kk | exact Rd.sD (Own.rd (Own.sD ‹_› hB)) kk) rfl) (bH 1 rfl rfl rfl rfl rfl (bH 2 rfl rfl rfl rfl rfl (am 21 rfl rfl rfl rfl (fun W' kk => bk aU cj rfl (by first | exact Rd.sD ‹_› kk | exact Rd.sD (Own.rd ‹_›) kk | exact Rd.sD (Rd.sD ‹_› hB) kk | exact Rd.sD (Own.rd (Own.sD ‹_› hB)) kk) rfl (by omega)) (am 22 rfl rfl rfl rfl (fun W' kk => eX dl rfl (by first | exact Rd.sD ‹_› kk | exact Rd.sD (Own.rd ‹_›) kk | exact Rd.sD (Rd.sD ‹_› hB) kk | exact Rd.sD (Own.rd (Own.sD ‹_› hB)) kk) rfl) (am 23 rfl rfl rfl rfl (fun W' kk => lw (by rw [aK]; rfl) aR rfl (by omega)) (cE 20 24 rfl rfl rfl rfl rfl (fun W' kk => eG c rfl rfl rfl hc) (bq [(7, _), (8, _), (11, _)] rfl rfl ⟨rfl, rfl, rfl, trivial⟩ rfl (a8 (vs := [_, _, _]) rfl (gj _ _ _ _ _ _ x a ha _)) ?_)))))))
 rintro _ w3 ⟨rfl, k3⟩
 refine ⟨k3, ?_⟩
 replace hB := hB.trans k3
 refine bq [(13, _), (14, _), (17, _)] rfl rfl ⟨rfl, rfl, rfl, trivial⟩ rfl (a8 (vs := [_, _, _]) rfl (gj _ _ _ _ _ _ x b hb _)) ?_
 rintro _ w4 ⟨rfl, k4⟩
 refine ⟨k4, ?_⟩
 replace hB := hB.trans k4
 refine cE 12 18 rfl rfl rfl rfl rfl (fun W' kk => eT rfl rfl) (cE 19 25 rfl rfl rfl rfl rfl (fun W' kk => eT rfl rfl) (bx (oga rfl rfl (a6 (a9 [(6, _)] ⟨rfl, trivial⟩ (bN hfin Tryz.results124 rfl ?_))))))
 exact ⟨rfl, hB⟩
theorem ji (z1 z2 z3 z4 z5 z6 : Value) (x : BitVec 64) (v : Value) (a b c : Nat) (ha : a ≤ 64) (hb : b ≤ 64) (hc : c ≤ 64) (w : World) (hv : Rd w 1 v 3 [.int .i64 (a : Int), .int .i64 (b : Int), .int .i64 (c : Int)]) : Rets Tryz.prog 121 [.agg [.int .i64 64, z1, z2, z3, z4, z5, z6].toArray, .int .u64 ((x).toNat : Int), v] w (fun v w' => v = .int .u64 ((hi (a, b, c) x).toNat : Int) ∧ Keep [] w w') := by
 have hB : Keep [] w w := Keep.refl _ _
 refine ac Tryz.func121 rfl (by decide) Tryz.ntmps121 rfl (fun fin _ hfin => a5 (aZ (ad (bZ (cs := [.int .i64 64, z1, z2, z3, z4, z5, z6]) rfl rfl) rfl ?_)))
 rintro _ w1 ⟨b1, rfl, eb1, hb1, k1, z1⟩
 replace hB := hB.trans k1
 clear eb1 z1
 refine oga rfl rfl (a6 (a5 (bc 20 [0, 1, 2, 3, 4, 6, 7, 8, 9, 10, 13, 14, 15, 16, 17, 5, 11, 12, 18, 19] [5, 11, 18] [] mixed [(3, _), (1, _), (2, _), (6, _)] ⟨rfl, rfl, rfl, rfl, trivial⟩ (by decide +kernel) rfl (fun w2 k2 => ?_))))
 obtain ⟨hB, hb1⟩ := bL k2 hB hb1
 refine am 3 rfl rfl rfl rfl (fun W' kk => aa (cs' := [_, _, _, _, _, _, _]) dL cx rfl (Bk.sD hb1 kk) rfl rfl) (bH 1 rfl rfl rfl rfl rfl (bH 2 rfl rfl rfl rfl rfl (am 9 rfl rfl rfl rfl (fun W' kk => bk aU cj rfl (by first | exact Rd.sD ‹_› kk | exact Rd.sD (Own.rd ‹_›) kk | exact Rd.sD (Rd.sD ‹_› hB) kk | exact Rd.sD (Own.rd (Own.sD ‹_› hB)) kk) rfl (by omega)) (am 10 rfl rfl rfl rfl (fun W' kk => eX dl rfl (by first | exact Rd.sD ‹_› kk | exact Rd.sD (Own.rd ‹_›) kk | exact Rd.sD (Rd.sD ‹_› hB) kk | exact Rd.sD (Own.rd (Own.sD ‹_› hB)) kk) rfl) (am 3 rfl rfl rfl rfl (fun W' kk => aa (cs' := [_, _, _, _, _, _, _]) dL cx rfl (Bk.sD hb1 kk) rfl rfl) (bH 1 rfl rfl rfl rfl rfl (bH 2 rfl rfl rfl rfl rfl (am 15 rfl rfl rfl rfl (fun W' kk => bk aU cj rfl (by first | exact Rd.sD ‹_› kk | exact Rd.sD (Own.rd ‹_›) kk | exact Rd.sD (Rd.sD ‹_› hB) kk | exact Rd.sD (Own.rd (Own.sD ‹_› hB)) kk) rfl (by omega)) ?_))))))))
 refine am 16 rfl rfl rfl rfl (fun W' kk => eX dl rfl (by first | exact Rd.sD ‹_› kk | exact Rd.sD (Own.rd ‹_›) kk | exact Rd.sD (Rd.sD ‹_› hB) kk | exact Rd.sD (Own.rd (Own.sD ‹_› hB)) kk) rfl) (am 3 rfl rfl rfl rfl (fun W' kk => aa (cs' := [_, _, _, _, _, _, _]) dL cx rfl (Bk.sD hb1 kk) rfl rfl) (bH 1 rfl rfl rfl rfl rfl (bH 2 rfl rfl rfl rfl rfl (am 22 rfl rfl rfl rfl (fun W' kk => bk aU cj rfl (by first | exact Rd.sD ‹_› kk | exact Rd.sD (Own.rd ‹_›) kk | exact Rd.sD (Rd.sD ‹_› hB) kk | exact Rd.sD (Own.rd (Own.sD ‹_› hB)) kk) rfl (by omega)) (am 23 rfl rfl rfl rfl (fun W' kk => eX dl rfl (by first | exact Rd.sD ‹_› kk | exact Rd.sD (Own.rd ‹_›) kk | exact Rd.sD (Rd.sD ‹_› hB) kk | exact Rd.sD (Own.rd (Own.sD ‹_› hB)) kk) rfl) (bq [(7, _), (8, _), (11, _)] rfl rfl ⟨rfl, rfl, rfl, trivial⟩ rfl (a8 (vs := [_, _, _]) rfl (gj _ _ _ _ _ _ x a ha _)) ?_))))))
 rintro _ w3 ⟨rfl, k3⟩
 refine ⟨k3, ?_⟩
 replace hB := hB.trans k3
 refine bq [(13, _), (14, _), (17, _)] rfl rfl ⟨rfl, rfl, rfl, trivial⟩ rfl (a8 (vs := [_, _, _]) rfl (gj _ _ _ _ _ _ x b hb _)) ?_
 rintro _ w4 ⟨rfl, k4⟩
 refine ⟨k4, ?_⟩
 replace hB := hB.trans k4
 refine cE 12 18 rfl rfl rfl rfl rfl (fun W' kk => eT rfl rfl) (bq [(20, _), (21, _), (24, _)] rfl rfl ⟨rfl, rfl, rfl, trivial⟩ rfl (a8 (vs := [_, _, _]) rfl (gj _ _ _ _ _ _ x c hc _)) ?_)
 rintro _ w5 ⟨rfl, k5⟩
 refine ⟨k5, ?_⟩
 replace hB := hB.trans k5
 refine cE 19 25 rfl rfl rfl rfl rfl (fun W' kk => eT rfl rfl) (bx (oga rfl rfl (a6 (a9 [(6, _)] ⟨rfl, trivial⟩ (bN hfin Tryz.results121 rfl ?_)))))
 exact ⟨rfl, hB⟩
theorem mS (l0 l1 u0 u1 : Value) (v : Value) (bs : List UInt8) (w : World) (hl0 : Rd w 1 l0 3 [.int .i64 1, .int .i64 8, .int .i64 7]) (hl1 : Rd w 1 l1 3 [.int .i64 19, .int .i64 61, .int .i64 6]) (hu0 : Rd w 1 u0 3 [.int .i64 28, .int .i64 34, .int .i64 39]) (hu1 : Rd w 1 u1 3 [.int .i64 14, .int .i64 18, .int .i64 41]) (hv : RdB w v bs) (hl : bs.length = 128) : Rets Tryz.prog 119 [.agg [.int .i64 64, .int .i64 128, .int .i64 80, l0, l1, u0, u1].toArray, v] w (fun r w' => OwnW w' w.heap.size r (sch cS bs 64) ∧ Keep [] w w') := by
  have hB : Keep [] w w := Keep.refl _ _
  refine ac Tryz.func119 rfl (by decide) Tryz.ntmps119 rfl (fun fin _ hfin => a5 (aZ (ad (bZ (cs := [.int .i64 64, .int .i64 128, .int .i64 80, l0, l1, u0, u1]) rfl rfl) rfl ?_)))
  rintro _ w1 ⟨b1, rfl, eb1, hb1, k1, z1⟩
  replace hB := hB.trans k1
  clear eb1 z1
  refine oga rfl rfl (a6 (a5 (aZ (a7 (ax 0 aN rfl cj (by decide) rfl rfl) rfl (a7 (ah dl rfl hb1 rfl) rfl (a7 (bC (j := 8) (er rfl rfl (by decide)) (by decide)) rfl (oga rfl rfl (a6 ?_))))))))
  refine a5 (aZ (oga rfl rfl (a6 (a5 (a5 (aZ (oga rfl rfl (a6 ?_))))))))
  refine ab (bT (Γ := Nat × Value) (fun ⟨i, o⟩ => [(1, v), (2, .pointer (some ⟨b1, 0, none⟩)), (5, .int .i64 8), (6, o), (7, .int .i64 (i : Int))]) (fun ⟨i, o⟩ W => i ≤ 16 ∧ OwnW W w.heap.size o ((List.range i).map (wrd 64 bs)) ∧ (∀ x, x ∈ vblk o → x ≠ b1) ∧ Bk W b1 116 [.int .i64 64, .int .i64 128, .int .i64 80, l0, l1, u0, u1] ∧ Keep [] w W) (fun ⟨i, o⟩ => 16 - i) ⟨0, .slice none 0 0⟩ ⟨rfl, rfl, rfl, rfl, rfl, trivial⟩ (⟨by omega, dO _ _ _ _, fun x hx => (by cases hx), hb1, hB⟩) ?_)
  rintro ⟨i, o⟩ w2 ⟨hi0, ow, hno, hbz, hB⟩
  refine a9 [(1, v), (2, .pointer (some ⟨b1, 0, none⟩)), (5, .int .i64 8), (6, o), (7, .int .i64 (i : Int))] ⟨rfl, rfl, rfl, rfl, rfl, trivial⟩ ?_
  have hwl : ((List.range i).map (wrd 64 bs)).length = i := by simp
  have hcl : ((bs.drop (8 * i)).take 8).length = 8 ∨ 16 ≤ i := by rw [List.length_take, List.length_drop]; omega
  refine a5 (a5 (aZ (ogm rfl rfl (a7 (bg rfl rfl) rfl (a6 (ba rfl (fun hc1 => ?_) (fun hc1 => ?_)))))))
  · -- yes
    refine ag (a5 (ab (a5 (aZ (a7 (cT (v' := .int .u64 ((wrdF (n := 64) 0 (((bs.drop (8 * i)).take 8).take 0)).toNat : Int)) (fM rfl) (show Value.int .u64 0 = _ from by rw [List.take_zero]; rfl)) rfl (a6 (a5 (a5 ?_))))))))
    refine aZ (oga rfl rfl (a6 (ab (bT (Γ := Nat) (fun k => [(1, v), (2, .pointer (some ⟨b1, 0, none⟩)), (5, .int .i64 8), (6, o), (7, .int .i64 (i : Int)), (8, .int .u64 ((wrdF (n := 64) 0 (((bs.drop (8 * i)).take 8).take k)).toNat : Int)), (9, .int .i64 (k : Int))]) (fun k W => k ≤ 8 ∧ OwnW W w.heap.size o ((List.range i).map (wrd 64 bs)) ∧ Bk W b1 116 [.int .i64 64, .int .i64 128, .int .i64 80, l0, l1, u0, u1] ∧ Keep [] w W) (fun k => 8 - k) 0 ⟨rfl, rfl, rfl, rfl, rfl, rfl, rfl, trivial⟩ (⟨by omega, ow, hbz, hB⟩) ?_))))
    rintro k w3 ⟨hk0, ow, hbz, hB⟩
    refine a9 [(1, v), (2, .pointer (some ⟨b1, 0, none⟩)), (5, .int .i64 8), (6, o), (7, .int .i64 (i : Int)), (8, .int .u64 ((wrdF (n := 64) 0 (((bs.drop (8 * i)).take 8).take k)).toNat : Int)), (9, .int .i64 (k : Int))] ⟨rfl, rfl, rfl, rfl, rfl, rfl, rfl, trivial⟩ (a5 (a5 (aZ (ogm rfl rfl (ogm rfl rfl (a7 (bg rfl rfl) rfl (a6 (ba rfl (fun hc2 => ?_) (fun hc2 => ?_)))))))))
    · -- yes
      refine ag (a5 (ab (aZ (ogm rfl rfl (a7 (ke 8 rfl rfl rfl (by decide)) rfl (ogm rfl rfl (ogm rfl rfl (ogm rfl rfl ?_))))))))
      refine a7 (fe rfl rfl (by omega)) rfl (ogm rfl rfl (a7 (bo rfl rfl (by omega)) rfl (a7 (bk aA cf rfl (by first | assumption | exact Own.rd (by assumption) | exact Rd.sD (by assumption) hB | exact Own.rd (Own.sD (by assumption) hB)) rfl (by omega)) rfl ?_)))
      obtain ⟨c, hc⟩ : ∃ c, ((bs.drop (8 * i)).take 8)[k]? = some c := ⟨_, List.getElem?_eq_getElem (by omega)⟩
      have hgc : gb bs (8 * (i : Int) + (k : Int)) = (c.toNat : Int) := by unfold gb; rw [List.getD_eq_getElem?_getD, show (8 * (i : Int) + (k : Int)).toNat = 8 * i + k from by omega, ← List.getElem?_drop]; rw [List.getElem?_take_of_lt (by omega)] at hc; rw [hc]; rfl
      refine a7 (cT (v' := .int .u8 (c.toNat : Int)) (dI gg rfl (by first | assumption | exact Own.rd (by assumption) | exact Rd.sD (by assumption) hB | exact Own.rd (Own.sD (by assumption) hB)) (by omega)) (by rw [hgc])) rfl (a7 (gb_cv c (by rw [aH]; rfl) aM rfl rfl) rfl (a7 (cT (v' := .int .u64 ((wrdF (n := 64) 0 (((bs.drop (8 * i)).take 8).take (k + 1))).toNat : Int)) (nf rfl rfl) (by rw [ja hc])) rfl (oga rfl rfl (a6 (a9 [(1, _), (2, _), (5, _), (6, _), (7, _), (8, _), (9, _)] ⟨rfl, rfl, rfl, rfl, rfl, rfl, rfl, trivial⟩ (bf (aZ (ogm rfl rfl ?_))))))))
      refine a7 (bo rfl rfl (by omega)) rfl (oga rfl rfl (a6 (bX (Γ := Nat) (k + 1) ⟨rfl, rfl, rfl, rfl, rfl, rfl, rfl, trivial⟩ (by (try dsimp only); omega) (⟨by omega, ow, hbz, hB⟩))))
    · -- no
      refine bF rfl (aZ (ogm rfl rfl (ogm rfl rfl (ad (eO (m := 1) (xs := [.tmp 36]) (vs := [_]) aC af (by decide) rfl rfl rfl (by first | (simp; done) | (intro v hv; rw [List.mem_singleton] at hv; subst hv; rfl)) (by decide)) rfl ?_))))
      rintro v1 w4 ⟨o1, nn1, lb1, k2, z2⟩
      replace ow := ow.sD k2
      obtain ⟨hB, hbz⟩ := bL k2 hB hbz
      have lt_b1_o2 := hbz.lt
      refine ad (kq (ys := [wrdF (n := 64) 0 (((bs.drop (8 * i)).take 8).take k)]) aC af rfl rfl ow rfl o1.rd (by simp only [List.length_singleton] at *; omega) (by have := hB.size; omega)) rfl ?_
      rintro v2 w5 ⟨o2, k3, lb2⟩
      replace hB := hB.new k3 (fun x hx => .inl (ow.blk x hx).1)
      replace hbz := hbz.keep k3 (fun hm => hno _ hm rfl)
      have sb_b1_o2 := fun x hx => (lb2 x hx).elim (hno x) (fun h => (show x ≠ b1 from by omega))
      replace o2 : OwnW w5 w.heap.size v2 (((List.range i).map (wrd 64 bs)) ++ [wrdF (n := 64) 0 (((bs.drop (8 * i)).take 8).take k)]) := by unfold OwnW; rw [List.length_append]; exact o2
      refine oga rfl rfl (a6 (bf (aZ (ogm rfl rfl (a7 (bo rfl rfl (by omega)) rfl (oga rfl rfl (a6 (a9 [(1, _), (2, _), (5, _), (6, _), (7, _)] ⟨rfl, rfl, rfl, rfl, rfl, trivial⟩ ?_))))))))
      obtain rfl : k = 8 := by omega
      rw [List.take_of_length_le (show ((bs.drop (8 * i)).take 8).length ≤ 8 from by omega)] at o2
      refine bX (Γ := Nat × Value) ⟨i + 1, v2⟩ ⟨rfl, rfl, rfl, rfl, rfl, trivial⟩ (by (try dsimp only); omega) (⟨by omega, by rw [j9]; exact o2, sb_b1_o2, hbz, hB⟩)
  · -- no
    refine bF rfl (a5 (a5 (aZ (oga rfl rfl (a6 (ab ?_))))))
    obtain rfl : i = 16 := by omega
    refine bT (Γ := Nat × Value) (fun ⟨t, o⟩ => [(2, .pointer (some ⟨b1, 0, none⟩)), (6, o), (10, .int .i64 (t : Int))]) (fun ⟨t, o⟩ W => 16 ≤ t ∧ t ≤ 80 ∧ OwnW W w.heap.size o (sch cS bs (t - 16)) ∧ (∀ x, x ∈ vblk o → x ≠ b1) ∧ Bk W b1 116 [.int .i64 64, .int .i64 128, .int .i64 80, l0, l1, u0, u1] ∧ Keep [] w W) (fun ⟨t, o⟩ => 80 - t) ⟨16, o⟩ ⟨rfl, rfl, rfl, trivial⟩ (⟨by omega, by omega, ow, hno, hbz, hB⟩) ?_
    rintro ⟨t, o⟩ w6 ⟨ht0, ht1, ow, hno, hbz, hB⟩
    refine a9 [(2, .pointer (some ⟨b1, 0, none⟩)), (6, o), (10, .int .i64 (t : Int))] ⟨rfl, rfl, rfl, trivial⟩ ?_
    have hsl : (sch cS bs (t - 16)).length = t := by rw [eY]; omega
    refine a5 (a5 (aZ (ogm rfl rfl (a7 (ax 2 aN rfl cj (by decide) rfl rfl) rfl (a7 (ah dl rfl hbz rfl) rfl (a7 (bg rfl rfl) rfl (a6 (ba rfl (fun hc3 => ?_) (fun hc3 => ?_)))))))))
    · -- yes
      refine ag (a5 (ab (bO 35 [0, 1, 2, 3, 4, 5, 6, 7, 8, 9, 11, 12, 13, 14, 15, 17, 18, 19, 20, 21, 22, 23, 24, 27, 28, 29, 30, 31, 10, 16, 25, 26, 32, 33, 34] [10, 25, 33, 34] [] [] mixed [(6, _), (2, _), (10, _)] ⟨rfl, rfl, rfl, trivial⟩ (by decide +kernel) (by decide) (by decide) ?_ (fun x hx => by cases hx) rfl (fun w7 k4 => ?_))))
      · intro q hq; cases hq
      replace ow := ow.sD k4
      obtain ⟨hB, hbz⟩ := bL k4 hB hbz
      refine cA 6 rfl rfl rfl rfl rfl (al 2 rfl rfl rfl rfl (fun W' kk => aa (cs' := [_, _, _, _, _, _, _]) dL cx rfl (Bk.sD hbz kk) rfl rfl) (al 2 rfl rfl rfl rfl (fun W' kk => aa (cs' := [_, _, _, _, _, _, _]) dL cx rfl (Bk.sD hbz kk) rfl rfl) (cA 6 rfl rfl rfl rfl rfl (cA 10 rfl rfl rfl rfl rfl (al 49 rfl rfl rfl rfl (fun W' kk => cy rfl rfl (by omega)) (cm 48 50 rfl rfl rfl rfl rfl (fun W' kk => bk aC af rfl (ow.sD kk).rd rfl (by omega)) (al 51 rfl rfl rfl rfl (fun W' kk => co (l := (sch cS bs (t - 16))) (t - 2) au rfl (by first | exact Rd.sD (by assumption) kk | exact Rd.sD (Own.rd (by assumption)) kk | exact Rd.sD (Rd.sD (by assumption) hB) kk | exact Rd.sD (Own.rd (Own.sD (by assumption) hB)) kk) (by omega) (by omega)) (al 2 rfl rfl rfl rfl (fun W' kk => ax 4 aN rfl ty87 (by decide) rfl rfl) ?_))))))))
      refine al 53 rfl rfl rfl rfl (fun W' kk => ah sc87 rfl (Bk.sD hbz kk) rfl) (cA 6 rfl rfl rfl rfl rfl (cA 10 rfl rfl rfl rfl rfl (al 57 rfl rfl rfl rfl (fun W' kk => cy rfl rfl (by omega)) (cm 56 58 rfl rfl rfl rfl rfl (fun W' kk => bk aC af rfl (ow.sD kk).rd rfl (by omega)) (al 59 rfl rfl rfl rfl (fun W' kk => co (l := (sch cS bs (t - 16))) (t - 7) au rfl (by first | exact Rd.sD (by assumption) kk | exact Rd.sD (Own.rd (by assumption)) kk | exact Rd.sD (Rd.sD (by assumption) hB) kk | exact Rd.sD (Own.rd (Own.sD (by assumption) hB)) kk) (by omega) (by omega)) (al 2 rfl rfl rfl rfl (fun W' kk => aa (cs' := [_, _, _, _, _, _, _]) dL cx rfl (Bk.sD hbz kk) rfl rfl) (cA 6 rfl rfl rfl rfl rfl (cA 10 rfl rfl rfl rfl rfl ?_))))))))
      refine al 64 rfl rfl rfl rfl (fun W' kk => cy rfl rfl (by omega)) (cm 63 65 rfl rfl rfl rfl rfl (fun W' kk => bk aC af rfl (ow.sD kk).rd rfl (by omega)) (al 66 rfl rfl rfl rfl (fun W' kk => co (l := (sch cS bs (t - 16))) (t - 15) au rfl (by first | exact Rd.sD (by assumption) kk | exact Rd.sD (Own.rd (by assumption)) kk | exact Rd.sD (Rd.sD (by assumption) hB) kk | exact Rd.sD (Own.rd (Own.sD (by assumption) hB)) kk) (by omega) (by omega)) (al 2 rfl rfl rfl rfl (fun W' kk => ax 3 aN rfl ty87 (by decide) rfl rfl) (al 68 rfl rfl rfl rfl (fun W' kk => ah sc87 rfl (Bk.sD hbz kk) rfl) (cA 6 rfl rfl rfl rfl rfl (cA 10 rfl rfl rfl rfl rfl (al 73 rfl rfl rfl rfl (fun W' kk => cy rfl rfl (by omega)) (cm 72 74 rfl rfl rfl rfl rfl (fun W' kk => bk aC af rfl (ow.sD kk).rd rfl (by omega)) ?_))))))))
      refine al 75 rfl rfl rfl rfl (fun W' kk => co (l := (sch cS bs (t - 16))) (t - 16) au rfl (by first | exact Rd.sD (by assumption) kk | exact Rd.sD (Own.rd (by assumption)) kk | exact Rd.sD (Rd.sD (by assumption) hB) kk | exact Rd.sD (Own.rd (Own.sD (by assumption) hB)) kk) (by omega) (by omega)) (bm [(47, _), (52, _), (54, _)] rfl rfl ⟨rfl, rfl, rfl, trivial⟩ rfl (fun w9 k6 => ?_))
      replace ow := ow.sD k6
      obtain ⟨hB, hbz⟩ := bL k6 hB hbz
      refine (a8 (vs := [_, _, _]) rfl (lZ _ _ _ _ _ _ ((sch cS bs (t - 16)).getD (t - 2) 0) _ 19 61 6 (by decide) (by decide) (by decide) _ (hl1.sD hB))).mono ?_
      rintro _ w8 ⟨rfl, k5⟩
      refine ⟨k5, nox, ?_⟩
      replace ow := ow.sD k5
      obtain ⟨hB, hbz⟩ := bL k5 hB hbz
      refine cm 55 60 rfl rfl rfl rfl rfl (fun W' kk => cO rfl rfl) (bm [(62, _), (67, _), (69, _)] rfl rfl ⟨rfl, rfl, rfl, trivial⟩ rfl (fun w11 k8 => ?_))
      replace ow := ow.sD k8
      obtain ⟨hB, hbz⟩ := bL k8 hB hbz
      refine (a8 (vs := [_, _, _]) rfl (lZ _ _ _ _ _ _ ((sch cS bs (t - 16)).getD (t - 15) 0) _ 1 8 7 (by decide) (by decide) (by decide) _ (hl0.sD hB))).mono ?_
      rintro _ w10 ⟨rfl, k7⟩
      refine ⟨k7, nox, ?_⟩
      replace ow := ow.sD k7
      obtain ⟨hB, hbz⟩ := bL k7 hB hbz
      refine cm 61 70 rfl rfl rfl rfl rfl (fun W' kk => cO rfl rfl) (cm 71 76 rfl rfl rfl rfl rfl (fun W' kk => cO rfl rfl) (bm [(46, _), (77, _)] rfl rfl ⟨rfl, rfl, trivial⟩ rfl (fun w13 k10 => ?_)))
      replace ow := ow.sD k10
      obtain ⟨hB, hbz⟩ := bL k10 hB hbz
      refine (a8 (vs := [_, _]) rfl (dH _ _ _ _ _ _ ((((lo (19, 61, 6) ((sch cS bs (t - 16)).getD (t - 2) 0)) + ((sch cS bs (t - 16)).getD (t - 7) 0)) + (lo (1, 8, 7) ((sch cS bs (t - 16)).getD (t - 15) 0))) + ((sch cS bs (t - 16)).getD (t - 16) 0)) _)).mono ?_
      rintro _ w12 ⟨rfl, k9⟩
      refine ⟨k9, nox, ?_⟩
      replace ow := ow.sD k9
      obtain ⟨hB, hbz⟩ := bL k9 hB hbz
      refine bm [(78, _)] rfl rfl ⟨rfl, trivial⟩ rfl (fun w15 k12 => ?_)
      replace ow := ow.sD k12
      obtain ⟨hB, hbz⟩ := bL k12 hB hbz
      refine (eO (m := 1) (xs := [.tmp 78]) (vs := [_]) aC af (by decide) rfl rfl rfl (by first | (simp; done) | (intro v hv; rw [List.mem_singleton] at hv; subst hv; rfl)) (by decide)).mono ?_
      rintro v3 w14 ⟨o3, nn2, lb3, k11, z3⟩
      refine ⟨k11, (fun x hx => ⟨.inr (o3.blk x (o3.rd.cblk ▸ hx)).1, (o3.blk x (o3.rd.cblk ▸ hx)).2⟩), ?_⟩
      replace ow := ow.sD k11
      obtain ⟨hB, hbz⟩ := bL k11 hB hbz
      refine cC (fun w16 k13 => ?_)
      replace ow := ow.sD k13
      replace hbz := hbz.sD k13
      replace o3 := o3.sD k13
      replace hB := hB.trans k13
      refine bP ?_
      have lt_b1_o4 := hbz.lt
      refine ad (kq (ys := [(((lo (19, 61, 6) ((sch cS bs (t - 16)).getD (t - 2) 0)) + ((sch cS bs (t - 16)).getD (t - 7) 0)) + (lo (1, 8, 7) ((sch cS bs (t - 16)).getD (t - 15) 0))) + ((sch cS bs (t - 16)).getD (t - 16) 0)]) aC af rfl rfl ow rfl o3.rd (by simp only [List.length_singleton] at *; omega) (by have := hB.size; omega)) rfl ?_
      rintro v4 w17 ⟨o4, k14, lb4⟩
      replace hB := hB.new k14 (fun x hx => .inl (ow.blk x hx).1)
      replace hbz := hbz.keep k14 (fun hm => hno _ hm rfl)
      have sb_b1_o4 := fun x hx => (lb4 x hx).elim (hno x) (fun h => (show x ≠ b1 from by omega))
      replace o4 : OwnW w17 w.heap.size v4 ((sch cS bs (t - 16)) ++ [(((lo (19, 61, 6) ((sch cS bs (t - 16)).getD (t - 2) 0)) + ((sch cS bs (t - 16)).getD (t - 7) 0)) + (lo (1, 8, 7) ((sch cS bs (t - 16)).getD (t - 15) 0))) + ((sch cS bs (t - 16)).getD (t - 16) 0)]) := by unfold OwnW; rw [List.length_append]; exact o4
      refine oga rfl rfl (a6 (a9 [(6, _), (2, _), (10, _)] ⟨rfl, rfl, rfl, trivial⟩ (bf (aZ (ogm rfl rfl (a7 (bo rfl rfl (by omega)) rfl (oga rfl rfl (a6 ?_))))))))
      refine bX (Γ := Nat × Value) ⟨t + 1, v4⟩ ⟨rfl, rfl, rfl, trivial⟩ (by (try dsimp only); omega) (⟨by omega, by omega, by rw [show t + 1 - 16 = (t - 16) + 1 from by omega, sch, show 16 + (t - 16) = t from by omega]; exact o4, sb_b1_o4, hbz, hB⟩)
    · -- no
      refine bF rfl (a5 (aZ (ogm rfl rfl (oga rfl rfl (a6 (bN hfin Tryz.results119 rfl ?_))))))
      obtain rfl : t = 80 := by omega
      exact ⟨ow, hB⟩
theorem mc (l0 l1 u0 u1 : Value) (sv kv v : Value) (bs : List UInt8) (s : S8 64) (w : World) (hl0 : Rd w 1 l0 3 [.int .i64 1, .int .i64 8, .int .i64 7]) (hl1 : Rd w 1 l1 3 [.int .i64 19, .int .i64 61, .int .i64 6]) (hu0 : Rd w 1 u0 3 [.int .i64 28, .int .i64 34, .int .i64 39]) (hu1 : Rd w 1 u1 3 [.int .i64 14, .int .i64 18, .int .i64 41]) (hs : RdW w sv (eR s)) (hk : RdW w kv (KB Kl)) (hv : RdB w v bs) (hl : bs.length = 128) : Rets Tryz.prog 106 [.agg [.int .i64 64, .int .i64 128, .int .i64 80, l0, l1, u0, u1].toArray, sv, kv, v] w (fun r w' => OwnW w' w.heap.size r (eR (blk cS Kl bs s)) ∧ Keep [] w w') := by
 have hB : Keep [] w w := Keep.refl _ _
 have hkl : (KB Kl).length = 80 := rfl
 refine ac Tryz.func106 rfl (by decide) Tryz.ntmps106 rfl (fun fin _ hfin => a5 (aZ (ad (bZ (cs := [.int .i64 64, .int .i64 128, .int .i64 80, l0, l1, u0, u1]) rfl rfl) rfl ?_)))
 rintro _ w1 ⟨b1, rfl, eb1, hb1, k1, z1⟩
 replace hB := hB.trans k1
 clear eb1 z1
 refine oga rfl rfl (a6 (a5 (aZ (a7 (aa (cs' := [_, _, _, _, _, _, _]) dL cx rfl hb1 rfl rfl) rfl (ogm rfl rfl (ad (a8 (vs := [_, _]) rfl (mS _ _ _ _ _ bs _ (hl0.sD hB) (hl1.sD hB) (hu0.sD hB) (hu1.sD hB) (hv.sD hB) hl)) rfl ?_))))))
 rintro v1 w2 ⟨o1, k2⟩
 have gl_o1 := hB.size
 obtain ⟨hB, hb1⟩ := bL k2 hB hb1
 have u_o1 := o1.blk
 refine oga rfl rfl (a6 (a5 (aZ (ad (eO (m := 0) (xs := []) (vs := []) aC af (by decide) rfl rfl rfl (by first | (simp; done) | (intro v hv; rw [List.mem_singleton] at hv; subst hv; rfl)) (by decide)) rfl ?_))))
 rintro v2 w3 ⟨o2, nn1, lb1, k3, z2⟩
 have gl_o2 := hB.size
 have sb_b1_o2 := fun x hx => (show x ≠ b1 from by have h1 := (o2.blk x hx).1; have h2 := hb1.lt; omega)
 replace hb1 := hb1.sD k3
 replace o1 := o1.sD k3
 replace hB := hB.trans k3
 refine ogm rfl rfl ?_
 have oo_o1 := fun x hx hm => (show False from by have h1 := (u_o1 x hx).2; have h2 := (o2.blk x hm).1; omega)
 replace o2 := o2.lo gl_o2
 have lt_b1_o3 := hb1.lt
 refine ad (kq (xs := []) (ys := eR s) aC af rfl rfl (show Own _ _ _ 1 _ 0 (wc []) from o2) rfl (show RdW _ sv (eR s) from hs.sD hB) ⟨(show (0 + 8) * 8 ≤ 140737488355328 by omega), (show 0 + 8 ≤ 9223372036854775807 by omega)⟩ (by have := hB.size; omega)) rfl ?_
 rintro v3 w4 ⟨o3, k4, lb2⟩
 replace hB := hB.new k4 (fun x hx => .inl (o2.blk x hx).1)
 replace o1 := o1.keep k4 (fun x hx hm => oo_o1 x hx hm)
 replace hb1 := hb1.keep k4 (fun hm => sb_b1_o2 _ hm rfl)
 have sb_b1_o3 := fun x hx => (lb2 x hx).elim (sb_b1_o2 x) (fun h => (show x ≠ b1 from by omega))
 have gg_o3 := hB.size
 refine oga rfl rfl (a6 (a5 (a5 (aZ (oga rfl rfl (a6 (ab ?_)))))))
 have gw_o1 := o1.lo gl_o1
 refine bT (Γ := Nat × S8 64 × Value) (fun ⟨i, X, o⟩ => [(1, sv), (2, kv), (4, .pointer (some ⟨b1, 0, none⟩)), (9, v1), (10, o), (11, .int .i64 (i : Int))]) (fun ⟨i, X, o⟩ W => i ≤ 80 ∧ X = rnds cS Kl (sch cS bs 64) s i ∧ OwnW W w.heap.size o (eR X) ∧ OwnW W w.heap.size v1 (sch cS bs 64) ∧ (∀ x, x ∈ vblk o → x ≠ b1) ∧ Bk W b1 116 [.int .i64 64, .int .i64 128, .int .i64 80, l0, l1, u0, u1] ∧ Keep [] w W) (fun ⟨i, X, o⟩ => 80 - i) ⟨0, s, v3⟩ ⟨rfl, rfl, rfl, rfl, rfl, rfl, trivial⟩ (⟨by omega, rfl, o3.lo (by omega), gw_o1, sb_b1_o3, hb1, hB⟩) ?_
 rintro ⟨i, X, o⟩ w5 ⟨hi0, hX, ow, oww, hno, hbz, hB⟩
 refine a9 [(1, sv), (2, kv), (4, .pointer (some ⟨b1, 0, none⟩)), (9, v1), (10, o), (11, .int .i64 (i : Int))] ⟨rfl, rfl, rfl, rfl, rfl, rfl, trivial⟩ ?_
 have hsl : (sch cS bs 64).length = 80 := by rw [eY]
 refine a5 (a5 (aZ (ogm rfl rfl (a7 (ax 2 aN rfl cj (by decide) rfl rfl) rfl (a7 (ah dl rfl hbz rfl) rfl (a7 (bg rfl rfl) rfl (a6 (ba rfl (fun hc1 => ?_) (fun hc1 => ?_)))))))))
 ·
  refine ag (a5 (ab (a5 (eJ mixed (by decide +kernel) (fun w6 k5 => ?_)))))
  replace ow := ow.sD k5
  replace oww := oww.sD k5
  obtain ⟨hB, hbz⟩ := bL k5 hB hbz
  refine ao (bb rfl) rfl (ao (bb rfl) rfl (ao (bk aC af rfl (hk.sD hB) rfl (by omega)) rfl (ao (co (l := (KB Kl)) i au rfl (hk.sD hB) rfl (by omega)) rfl (ao (ax 0 aN rfl cj (by decide) rfl rfl) rfl (ao (ah dl rfl hbz rfl) rfl (ao (bC (j := 0) (cX rfl rfl) (by decide)) rfl (ao (bC (j := 0) (ef (by rw [aK]; rfl) aR rfl) (by decide)) rfl (ao (eG 0 rfl rfl rfl (by decide)) rfl (ao (fM rfl) rfl (cU (a6 (a9 [(1, _), (2, _), (4, _), (9, _), (10, _), (11, _), (12, _)] ⟨rfl, rfl, rfl, rfl, rfl, rfl, rfl, trivial⟩ ?_))))))))))))
  refine a5 (bc 37 [0, 1, 2, 3, 4, 5, 6, 7, 8, 9, 12, 13, 14, 15, 16, 17, 18, 19, 20, 21, 22, 23, 24, 25, 26, 27, 29, 31, 32, 33, 34, 10, 11, 28, 30, 35, 36] [10, 36] [] mixed [(4, _), (10, _), (12, _), (9, _), (11, _), (1, _), (2, _)] ⟨rfl, rfl, rfl, rfl, rfl, rfl, rfl, trivial⟩ (by decide +kernel) rfl (fun w7 k6 => ?_))
  replace ow := ow.sD k6
  replace oww := oww.sD k6
  obtain ⟨hB, hbz⟩ := bL k6 hB hbz
  refine am 4 rfl rfl rfl rfl (fun W' kk => aa (cs' := [_, _, _, _, _, _, _]) dL cx rfl (Bk.sD hbz kk) rfl rfl) (bH 10 rfl rfl rfl rfl rfl (am 38 rfl rfl rfl rfl (fun W' kk => bk aC af rfl (Rd.sD ow.rd kk) rfl (by constructor <;> first | omega | (show (_ : Int) < 8; omega))) (am 39 rfl rfl rfl rfl (fun W' kk => co (l := (eR X)) 7 au rfl (Rd.sD ow.rd kk) rfl (bK rfl)) (am 4 rfl rfl rfl rfl (fun W' kk => aa (cs' := [_, _, _, _, _, _, _]) dL cx rfl (Bk.sD hbz kk) rfl rfl) (bH 10 rfl rfl rfl rfl rfl (am 42 rfl rfl rfl rfl (fun W' kk => bk aC af rfl (Rd.sD ow.rd kk) rfl (by constructor <;> first | omega | (show (_ : Int) < 8; omega))) (am 43 rfl rfl rfl rfl (fun W' kk => co (l := (eR X)) 4 au rfl (Rd.sD ow.rd kk) rfl (bK rfl)) (am 4 rfl rfl rfl rfl (fun W' kk => ax 6 aN rfl ty87 (by decide) rfl rfl) ?_))))))))
  refine am 45 rfl rfl rfl rfl (fun W' kk => ah sc87 rfl (Bk.sD hbz kk) rfl) (bH 10 rfl rfl rfl rfl rfl (am 49 rfl rfl rfl rfl (fun W' kk => bk aC af rfl (Rd.sD ow.rd kk) rfl (by constructor <;> first | omega | (show (_ : Int) < 8; omega))) (am 50 rfl rfl rfl rfl (fun W' kk => co (l := (eR X)) 4 au rfl (Rd.sD ow.rd kk) rfl (bK rfl)) (bH 10 rfl rfl rfl rfl rfl (am 52 rfl rfl rfl rfl (fun W' kk => bk aC af rfl (Rd.sD ow.rd kk) rfl (by constructor <;> first | omega | (show (_ : Int) < 8; omega))) (am 53 rfl rfl rfl rfl (fun W' kk => co (l := (eR X)) 5 au rfl (Rd.sD ow.rd kk) rfl (bK rfl)) (cE 51 54 rfl rfl rfl rfl rfl (fun W' kk => fE rfl rfl) (bH 10 rfl rfl rfl rfl rfl ?_))))))))
  refine am 56 rfl rfl rfl rfl (fun W' kk => bk aC af rfl (Rd.sD ow.rd kk) rfl (by constructor <;> first | omega | (show (_ : Int) < 8; omega))) (am 57 rfl rfl rfl rfl (fun W' kk => co (l := (eR X)) 4 au rfl (Rd.sD ow.rd kk) rfl (bK rfl)) (am 58 rfl rfl rfl rfl (fun W' kk => rC rfl) (bH 10 rfl rfl rfl rfl rfl (am 60 rfl rfl rfl rfl (fun W' kk => bk aC af rfl (Rd.sD ow.rd kk) rfl (by constructor <;> first | omega | (show (_ : Int) < 8; omega))) (am 61 rfl rfl rfl rfl (fun W' kk => co (l := (eR X)) 6 au rfl (Rd.sD ow.rd kk) rfl (bK rfl)) (cE 59 62 rfl rfl rfl rfl rfl (fun W' kk => fE rfl rfl) (cE 55 63 rfl rfl rfl rfl rfl (fun W' kk => eT rfl rfl) (bH 12 rfl rfl rfl rfl rfl ?_))))))))
  refine bH 9 rfl rfl rfl rfl rfl (bH 11 rfl rfl rfl rfl rfl (cE 68 69 rfl rfl rfl rfl rfl (fun W' kk => bk aC af rfl (Rd.sD oww.rd kk) rfl (by omega)) (am 70 rfl rfl rfl rfl (fun W' kk => co (l := (sch cS bs 64)) i au rfl (Rd.sD oww.rd kk) rfl (by omega)) (bq [(41, _), (44, _), (46, _)] rfl rfl ⟨rfl, rfl, rfl, trivial⟩ rfl (a8 (vs := [_, _, _]) rfl (ji _ _ _ _ _ _ X.e _ 14 18 41 (by decide) (by decide) (by decide) _ (hu1.sD hB))) ?_))))
  rintro _ w8 ⟨rfl, k7⟩
  refine ⟨k7, ?_⟩
  replace ow := ow.sD k7
  replace oww := oww.sD k7
  obtain ⟨hB, hbz⟩ := bL k7 hB hbz
  refine cE 40 47 rfl rfl rfl rfl rfl (fun W' kk => cO rfl rfl) (cE 48 64 rfl rfl rfl rfl rfl (fun W' kk => cO rfl rfl) (cE 65 66 rfl rfl rfl rfl rfl (fun W' kk => cO rfl rfl) (cE 67 71 rfl rfl rfl rfl rfl (fun W' kk => cO rfl rfl) (bq [(37, _), (72, _)] rfl rfl ⟨rfl, rfl, trivial⟩ rfl (a8 (vs := [_, _]) rfl (dH _ _ _ _ _ _ ((((X.h + (hi (14, 18, 41) X.e)) + ((X.e &&& X.f) ^^^ ((~~~X.e) &&& X.g))) + (((KB Kl).getD i 0) >>> 0)) + ((sch cS bs 64).getD i 0)) _)) ?_))))
  rintro _ w9 ⟨rfl, k8⟩
  refine ⟨k8, ?_⟩
  replace ow := ow.sD k8
  replace oww := oww.sD k8
  obtain ⟨hB, hbz⟩ := bL k8 hB hbz
  refine bx (oga rfl rfl (a6 (a9 [(4, _), (10, _), (9, _), (11, _), (1, _), (2, _), (13, _)] ⟨rfl, rfl, rfl, rfl, rfl, rfl, rfl, trivial⟩ (a5 (bc 33 [0, 1, 2, 3, 4, 5, 6, 8, 9, 10, 11, 12, 13, 14, 15, 16, 17, 18, 19, 20, 21, 22, 23, 24, 25, 26, 27, 28, 29, 30, 7, 31, 32] [7, 32] [] mixed [(4, _), (10, _), (9, _), (11, _), (1, _), (2, _), (13, _)] ⟨rfl, rfl, rfl, rfl, rfl, rfl, rfl, trivial⟩ (by decide +kernel) rfl (fun w10 k9 => ?_))))))
  replace ow := ow.sD k9
  replace oww := oww.sD k9
  obtain ⟨hB, hbz⟩ := bL k9 hB hbz
  refine am 4 rfl rfl rfl rfl (fun W' kk => aa (cs' := [_, _, _, _, _, _, _]) dL cx rfl (Bk.sD hbz kk) rfl rfl) (am 4 rfl rfl rfl rfl (fun W' kk => aa (cs' := [_, _, _, _, _, _, _]) dL cx rfl (Bk.sD hbz kk) rfl rfl) (bH 10 rfl rfl rfl rfl rfl (am 76 rfl rfl rfl rfl (fun W' kk => bk aC af rfl (Rd.sD ow.rd kk) rfl (by constructor <;> first | omega | (show (_ : Int) < 8; omega))) (am 77 rfl rfl rfl rfl (fun W' kk => co (l := (eR X)) 0 au rfl (Rd.sD ow.rd kk) rfl (bK rfl)) (am 4 rfl rfl rfl rfl (fun W' kk => ax 5 aN rfl ty87 (by decide) rfl rfl) (am 79 rfl rfl rfl rfl (fun W' kk => ah sc87 rfl (Bk.sD hbz kk) rfl) (bH 10 rfl rfl rfl rfl rfl (am 82 rfl rfl rfl rfl (fun W' kk => bk aC af rfl (Rd.sD ow.rd kk) rfl (by constructor <;> first | omega | (show (_ : Int) < 8; omega))) ?_))))))))
  refine am 83 rfl rfl rfl rfl (fun W' kk => co (l := (eR X)) 0 au rfl (Rd.sD ow.rd kk) rfl (bK rfl)) (bH 10 rfl rfl rfl rfl rfl (am 85 rfl rfl rfl rfl (fun W' kk => bk aC af rfl (Rd.sD ow.rd kk) rfl (by constructor <;> first | omega | (show (_ : Int) < 8; omega))) (am 86 rfl rfl rfl rfl (fun W' kk => co (l := (eR X)) 1 au rfl (Rd.sD ow.rd kk) rfl (bK rfl)) (cE 84 87 rfl rfl rfl rfl rfl (fun W' kk => fE rfl rfl) (bH 10 rfl rfl rfl rfl rfl (am 89 rfl rfl rfl rfl (fun W' kk => bk aC af rfl (Rd.sD ow.rd kk) rfl (by constructor <;> first | omega | (show (_ : Int) < 8; omega))) (am 90 rfl rfl rfl rfl (fun W' kk => co (l := (eR X)) 0 au rfl (Rd.sD ow.rd kk) rfl (bK rfl)) (bH 10 rfl rfl rfl rfl rfl ?_))))))))
  refine am 92 rfl rfl rfl rfl (fun W' kk => bk aC af rfl (Rd.sD ow.rd kk) rfl (by constructor <;> first | omega | (show (_ : Int) < 8; omega))) (am 93 rfl rfl rfl rfl (fun W' kk => co (l := (eR X)) 2 au rfl (Rd.sD ow.rd kk) rfl (bK rfl)) (cE 91 94 rfl rfl rfl rfl rfl (fun W' kk => fE rfl rfl) (cE 88 95 rfl rfl rfl rfl rfl (fun W' kk => eT rfl rfl) (bH 10 rfl rfl rfl rfl rfl (am 97 rfl rfl rfl rfl (fun W' kk => bk aC af rfl (Rd.sD ow.rd kk) rfl (by constructor <;> first | omega | (show (_ : Int) < 8; omega))) (am 98 rfl rfl rfl rfl (fun W' kk => co (l := (eR X)) 1 au rfl (Rd.sD ow.rd kk) rfl (bK rfl)) (bH 10 rfl rfl rfl rfl rfl (am 100 rfl rfl rfl rfl (fun W' kk => bk aC af rfl (Rd.sD ow.rd kk) rfl (by constructor <;> first | omega | (show (_ : Int) < 8; omega))) ?_))))))))
  refine am 101 rfl rfl rfl rfl (fun W' kk => co (l := (eR X)) 2 au rfl (Rd.sD ow.rd kk) rfl (bK rfl)) (cE 99 102 rfl rfl rfl rfl rfl (fun W' kk => fE rfl rfl) (cE 96 103 rfl rfl rfl rfl rfl (fun W' kk => eT rfl rfl) (bq [(75, _), (78, _), (80, _)] rfl rfl ⟨rfl, rfl, rfl, trivial⟩ rfl (a8 (vs := [_, _, _]) rfl (ji _ _ _ _ _ _ X.a _ 28 34 39 (by decide) (by decide) (by decide) _ (hu0.sD hB))) ?_)))
  rintro _ w11 ⟨rfl, k10⟩
  refine ⟨k10, ?_⟩
  replace ow := ow.sD k10
  replace oww := oww.sD k10
  obtain ⟨hB, hbz⟩ := bL k10 hB hbz
  refine cE 81 104 rfl rfl rfl rfl rfl (fun W' kk => cO rfl rfl) (bq [(74, _), (105, _)] rfl rfl ⟨rfl, rfl, trivial⟩ rfl (a8 (vs := [_, _]) rfl (dH _ _ _ _ _ _ ((hi (28, 34, 39) X.a) + (((X.a &&& X.b) ^^^ (X.a &&& X.c)) ^^^ (X.b &&& X.c))) _)) ?_)
  rintro _ w12 ⟨rfl, k11⟩
  refine ⟨k11, ?_⟩
  replace ow := ow.sD k11
  replace oww := oww.sD k11
  obtain ⟨hB, hbz⟩ := bL k11 hB hbz
  refine bx (oga rfl rfl (a6 (a9 [(4, _), (10, _), (9, _), (11, _), (1, _), (2, _), (13, _), (14, _)] ⟨rfl, rfl, rfl, rfl, rfl, rfl, rfl, rfl, trivial⟩ (bc 31 [0, 1, 2, 3, 5, 6, 7, 8, 9, 10, 11, 12, 13, 14, 15, 16, 17, 18, 19, 21, 22, 23, 24, 25, 26, 27, 28, 29, 4, 20, 30] [4, 20, 30] [] mixed [(4, _), (13, _), (14, _), (10, _), (9, _), (11, _), (1, _), (2, _)] ⟨rfl, rfl, rfl, rfl, rfl, rfl, rfl, rfl, trivial⟩ (by decide +kernel) rfl (fun w13 k12 => ?_)))))
  replace ow := ow.sD k12
  replace oww := oww.sD k12
  obtain ⟨hB, hbz⟩ := bL k12 hB hbz
  refine am 4 rfl rfl rfl rfl (fun W' kk => aa (cs' := [_, _, _, _, _, _, _]) dL cx rfl (Bk.sD hbz kk) rfl rfl) (bH 13 rfl rfl rfl rfl rfl (bH 14 rfl rfl rfl rfl rfl (cE 108 109 rfl rfl rfl rfl rfl (fun W' kk => cO rfl rfl) (bH 10 rfl rfl rfl rfl rfl (am 112 rfl rfl rfl rfl (fun W' kk => bk aC af rfl (Rd.sD ow.rd kk) rfl (by constructor <;> first | omega | (show (_ : Int) < 8; omega))) (am 113 rfl rfl rfl rfl (fun W' kk => co (l := (eR X)) 0 au rfl (Rd.sD ow.rd kk) rfl (bK rfl)) (bH 10 rfl rfl rfl rfl rfl (am 115 rfl rfl rfl rfl (fun W' kk => bk aC af rfl (Rd.sD ow.rd kk) rfl (by constructor <;> first | omega | (show (_ : Int) < 8; omega))) ?_))))))))
  refine am 116 rfl rfl rfl rfl (fun W' kk => co (l := (eR X)) 1 au rfl (Rd.sD ow.rd kk) rfl (bK rfl)) (bH 10 rfl rfl rfl rfl rfl (am 118 rfl rfl rfl rfl (fun W' kk => bk aC af rfl (Rd.sD ow.rd kk) rfl (by constructor <;> first | omega | (show (_ : Int) < 8; omega))) (am 119 rfl rfl rfl rfl (fun W' kk => co (l := (eR X)) 2 au rfl (Rd.sD ow.rd kk) rfl (bK rfl)) (am 4 rfl rfl rfl rfl (fun W' kk => aa (cs' := [_, _, _, _, _, _, _]) dL cx rfl (Bk.sD hbz kk) rfl rfl) (bH 10 rfl rfl rfl rfl rfl (am 122 rfl rfl rfl rfl (fun W' kk => bk aC af rfl (Rd.sD ow.rd kk) rfl (by constructor <;> first | omega | (show (_ : Int) < 8; omega))) (am 123 rfl rfl rfl rfl (fun W' kk => co (l := (eR X)) 3 au rfl (Rd.sD ow.rd kk) rfl (bK rfl)) (bH 13 rfl rfl rfl rfl rfl ?_))))))))
  refine cE 124 125 rfl rfl rfl rfl rfl (fun W' kk => cO rfl rfl) (bH 10 rfl rfl rfl rfl rfl (am 128 rfl rfl rfl rfl (fun W' kk => bk aC af rfl (Rd.sD ow.rd kk) rfl (by constructor <;> first | omega | (show (_ : Int) < 8; omega))) (am 129 rfl rfl rfl rfl (fun W' kk => co (l := (eR X)) 4 au rfl (Rd.sD ow.rd kk) rfl (bK rfl)) (bH 10 rfl rfl rfl rfl rfl (am 131 rfl rfl rfl rfl (fun W' kk => bk aC af rfl (Rd.sD ow.rd kk) rfl (by constructor <;> first | omega | (show (_ : Int) < 8; omega))) (am 132 rfl rfl rfl rfl (fun W' kk => co (l := (eR X)) 5 au rfl (Rd.sD ow.rd kk) rfl (bK rfl)) (bH 10 rfl rfl rfl rfl rfl (am 134 rfl rfl rfl rfl (fun W' kk => bk aC af rfl (Rd.sD ow.rd kk) rfl (by constructor <;> first | omega | (show (_ : Int) < 8; omega))) ?_))))))))
  refine am 135 rfl rfl rfl rfl (fun W' kk => co (l := (eR X)) 6 au rfl (Rd.sD ow.rd kk) rfl (bK rfl)) (bq [(107, _), (110, _)] rfl rfl ⟨rfl, rfl, trivial⟩ rfl (a8 (vs := [_, _]) rfl (dH _ _ _ _ _ _ (((((X.h + (hi (14, 18, 41) X.e)) + ((X.e &&& X.f) ^^^ ((~~~X.e) &&& X.g))) + (((KB Kl).getD i 0) >>> 0)) + ((sch cS bs 64).getD i 0)) + ((hi (28, 34, 39) X.a) + (((X.a &&& X.b) ^^^ (X.a &&& X.c)) ^^^ (X.b &&& X.c)))) _)) ?_)
  rintro _ w14 ⟨rfl, k13⟩
  refine ⟨k13, ?_⟩
  replace ow := ow.sD k13
  replace oww := oww.sD k13
  obtain ⟨hB, hbz⟩ := bL k13 hB hbz
  refine bq [(121, _), (126, _)] rfl rfl ⟨rfl, rfl, trivial⟩ rfl (a8 (vs := [_, _]) rfl (dH _ _ _ _ _ _ (X.d + ((((X.h + (hi (14, 18, 41) X.e)) + ((X.e &&& X.f) ^^^ ((~~~X.e) &&& X.g))) + (((KB Kl).getD i 0) >>> 0)) + ((sch cS bs 64).getD i 0))) _)) ?_
  rintro _ w15 ⟨rfl, k14⟩
  refine ⟨k14, ?_⟩
  replace ow := ow.sD k14
  replace oww := oww.sD k14
  obtain ⟨hB, hbz⟩ := bL k14 hB hbz
  refine bq [(111, _), (114, _), (117, _), (120, _), (127, _), (130, _), (133, _), (136, _)] rfl rfl ⟨rfl, rfl, rfl, rfl, rfl, rfl, rfl, rfl, trivial⟩ rfl (eO (m := 8) (xs := [.tmp 111, .tmp 114, .tmp 117, .tmp 120, .tmp 127, .tmp 130, .tmp 133, .tmp 136]) (vs := [_, _, _, _, _, _, _, _]) aC af (by decide) rfl rfl rfl (by simp only [List.forall_mem_cons]; exact ⟨rfl, rfl, rfl, rfl, rfl, rfl, rfl, rfl, fun v hv => by cases hv⟩) (by decide)) ?_
  rintro v4 w16 ⟨o4, nn2, lb3, k15, z3⟩
  refine ⟨k15, ?_⟩
  have gl_o4 := hB.size
  have sb_b1_o4 := fun x hx => (show x ≠ b1 from by have h1 := (o4.blk x hx).1; have h2 := hbz.lt; omega)
  replace ow := ow.sD k15
  replace oww := oww.sD k15
  obtain ⟨hB, hbz⟩ := bL k15 hB hbz
  refine bx (oga rfl rfl (a6 (a9 [(4, _), (10, _), (9, _), (11, _), (1, _), (2, _)] ⟨rfl, rfl, rfl, rfl, rfl, rfl, trivial⟩ (bf (aZ (ogm rfl rfl (a7 (bo rfl rfl (by omega)) rfl (oga rfl rfl (a6 (bX (Γ := Nat × S8 64 × Value) ⟨i + 1, rnd cS (cst 64 Kl i) ((sch cS bs 64).getD i 0) X, v4⟩ ⟨rfl, rfl, rfl, rfl, rfl, rfl, trivial⟩ (by (try dsimp only); omega) (⟨by omega, by rw [hX]; rfl, by rw [← ft]; exact o4.lo gl_o4, oww, sb_b1_o4, hbz, hB⟩)))))))))))
 ·
  refine bF rfl (a5 (a5 (aZ ?_)))
  obtain rfl : i = 80 := by omega
  replace ow : Own w5 w.heap.size 47 1 o 8 [.int .u64 ((X.a).toNat : Int), .int .u64 ((X.b).toNat : Int), .int .u64 ((X.c).toNat : Int), .int .u64 ((X.d).toNat : Int), .int .u64 ((X.e).toNat : Int), .int .u64 ((X.f).toNat : Int), .int .u64 ((X.g).toNat : Int), .int .u64 ((X.h).toNat : Int)] := ow
  have go_o := fun x hx => (ow.blk x hx).1
  refine oga rfl rfl (a6 (ab (d7 9 (a5 (a5 (aZ (ogm rfl rfl (a7 (bg rfl rfl) rfl (a6 (bd rfl (by decide) (ag (a5 (ab (bc 13 [0, 1, 2, 3, 4, 5, 6, 7, 8, 9, 10, 11, 12] [12] [] mixed [(10, _), (15, _), (4, _), (1, _)] ⟨rfl, rfl, rfl, rfl, trivial⟩ (by decide +kernel) rfl (fun w17 k16 => ?_)))))))))))))))
  replace ow := ow.sD k16
  obtain ⟨hB, hbz⟩ := bL k16 hB hbz
  refine bH 10 rfl rfl rfl rfl rfl (bH 15 rfl rfl rfl rfl rfl (am 4 rfl rfl rfl rfl (fun W' kk => aa (cs' := [_, _, _, _, _, _, _]) dL cx rfl (Bk.sD hbz kk) rfl rfl) (bH 10 rfl rfl rfl rfl rfl (bH 15 rfl rfl rfl rfl rfl (cE 145 146 rfl rfl rfl rfl rfl (fun W' kk => bk aC af rfl (ow.sD kk).rd rfl (by omega)) (am 147 rfl rfl rfl rfl (fun W' kk => eX au rfl (by first | exact Rd.sD ‹_› kk | exact Rd.sD (Own.rd ‹_›) kk | exact Rd.sD (Rd.sD ‹_› hB) kk | exact Rd.sD (Own.rd (Own.sD ‹_› hB)) kk) rfl) (bH 1 rfl rfl rfl rfl rfl (bH 15 rfl rfl rfl rfl rfl ?_))))))))
  refine cE 149 150 rfl rfl rfl rfl rfl (fun W' kk => bk aC af rfl (Rd.sD (hs.sD hB) kk) rfl (by constructor <;> first | omega | (show (_ : Int) < 8; omega))) (am 151 rfl rfl rfl rfl (fun W' kk => co (l := (eR s)) 0 au rfl (Rd.sD (hs.sD hB) kk) rfl (bK rfl)) (cE 148 152 rfl rfl rfl rfl rfl (fun W' kk => cO rfl rfl) (bq [(144, _), (153, _)] rfl rfl ⟨rfl, rfl, trivial⟩ rfl (a8 (vs := [_, _]) rfl (dH _ _ _ _ _ _ (X.a + s.a) _)) ?_)))
  rintro _ w18 ⟨rfl, k17⟩
  refine ⟨k17, ?_⟩
  replace ow := ow.sD k17
  obtain ⟨hB, hbz⟩ := bL k17 hB hbz
  refine bx (a7 (bk aC af rfl ow.rd rfl (by omega)) rfl (ae (ec (u := .int .u64 ((X.a + s.a).toNat : Int)) af rfl rfl rfl ow (bK rfl)) ?_))
  rintro _ w19 ⟨o5, k18, z4⟩
  have z_k18 := k18.size
  replace o5 : Own w19 _ 47 1 o 8 [.int .u64 ((X.a + s.a).toNat : Int), .int .u64 ((X.b).toNat : Int), .int .u64 ((X.c).toNat : Int), .int .u64 ((X.d).toNat : Int), .int .u64 ((X.e).toNat : Int), .int .u64 ((X.f).toNat : Int), .int .u64 ((X.g).toNat : Int), .int .u64 ((X.h).toNat : Int)] := o5
  replace hbz := hbz.keep k18 (fun hm => hno _ hm rfl)
  replace hB := hB.new k18 (fun x hx => .inl (go_o x hx))
  clear z_k18 z4
  refine a6 (a9 [(10, _), (15, _), (4, _), (1, _)] ⟨rfl, rfl, rfl, rfl, trivial⟩ (bf (aZ (ogm rfl rfl (a7 (bC (j := 1) (ay rfl rfl) (by decide)) rfl (oga rfl rfl (a6 (cF (a5 (a5 (aZ (ogm rfl rfl (a7 (bg rfl rfl) rfl (a6 (bd rfl (by decide) (ag (a5 (ab (bc 13 [0, 1, 2, 3, 4, 5, 6, 7, 8, 9, 10, 11, 12] [12] [] mixed [(10, _), (15, _), (4, _), (1, _)] ⟨rfl, rfl, rfl, rfl, trivial⟩ (by decide +kernel) rfl (fun w20 k19 => ?_))))))))))))))))))))
  replace hbz := hbz.sD k19
  replace o5 := o5.sD k19
  replace hB := hB.trans k19
  refine bH 10 rfl rfl rfl rfl rfl (bH 15 rfl rfl rfl rfl rfl (am 4 rfl rfl rfl rfl (fun W' kk => aa (cs' := [_, _, _, _, _, _, _]) dL cx rfl (Bk.sD hbz kk) rfl rfl) (bH 10 rfl rfl rfl rfl rfl (bH 15 rfl rfl rfl rfl rfl (cE 145 146 rfl rfl rfl rfl rfl (fun W' kk => bk aC af rfl (by first | exact Rd.sD ‹_› kk | exact Rd.sD (Own.rd ‹_›) kk | exact Rd.sD (Rd.sD ‹_› hB) kk | exact Rd.sD (Own.rd (Own.sD ‹_› hB)) kk) rfl (by omega)) (am 147 rfl rfl rfl rfl (fun W' kk => eX au rfl (by first | exact Rd.sD ‹_› kk | exact Rd.sD (Own.rd ‹_›) kk | exact Rd.sD (Rd.sD ‹_› hB) kk | exact Rd.sD (Own.rd (Own.sD ‹_› hB)) kk) rfl) (bH 1 rfl rfl rfl rfl rfl (bH 15 rfl rfl rfl rfl rfl ?_))))))))
  refine cE 149 150 rfl rfl rfl rfl rfl (fun W' kk => bk aC af rfl (Rd.sD (hs.sD hB) kk) rfl (by constructor <;> first | omega | (show (_ : Int) < 8; omega))) (am 151 rfl rfl rfl rfl (fun W' kk => co (l := (eR s)) 1 au rfl (Rd.sD (hs.sD hB) kk) rfl (bK rfl)) (cE 148 152 rfl rfl rfl rfl rfl (fun W' kk => cO rfl rfl) (bq [(144, _), (153, _)] rfl rfl ⟨rfl, rfl, trivial⟩ rfl (a8 (vs := [_, _]) rfl (dH _ _ _ _ _ _ (X.b + s.b) _)) ?_)))
  rintro _ w21 ⟨rfl, k20⟩
  refine ⟨k20, ?_⟩
  replace hbz := hbz.sD k20
  replace o5 := o5.sD k20
  replace hB := hB.trans k20
  refine bx (a7 (bk aC af rfl (by first | assumption | exact Own.rd ‹_› | exact Rd.sD ‹_› hB | exact Own.rd (Own.sD ‹_› hB)) rfl (by omega)) rfl (ae (ec (u := .int .u64 ((X.b + s.b).toNat : Int)) af rfl rfl rfl o5 (bK rfl)) ?_))
  rintro _ w22 ⟨o6, k21, z5⟩
  have z_k21 := k21.size
  replace o6 : Own w22 _ 47 1 o 8 [.int .u64 ((X.a + s.a).toNat : Int), .int .u64 ((X.b + s.b).toNat : Int), .int .u64 ((X.c).toNat : Int), .int .u64 ((X.d).toNat : Int), .int .u64 ((X.e).toNat : Int), .int .u64 ((X.f).toNat : Int), .int .u64 ((X.g).toNat : Int), .int .u64 ((X.h).toNat : Int)] := o6
  replace hbz := hbz.keep k21 (fun hm => hno _ hm rfl)
  replace hB := hB.new k21 (fun x hx => .inl (go_o x hx))
  clear z_k21 z5
  refine a6 (a9 [(10, _), (15, _), (4, _), (1, _)] ⟨rfl, rfl, rfl, rfl, trivial⟩ (bf (aZ (ogm rfl rfl (a7 (bC (j := 2) (ay rfl rfl) (by decide)) rfl (oga rfl rfl (a6 (cF (a5 (a5 (aZ (ogm rfl rfl (a7 (bg rfl rfl) rfl (a6 (bd rfl (by decide) (ag (a5 (ab (bc 13 [0, 1, 2, 3, 4, 5, 6, 7, 8, 9, 10, 11, 12] [12] [] mixed [(10, _), (15, _), (4, _), (1, _)] ⟨rfl, rfl, rfl, rfl, trivial⟩ (by decide +kernel) rfl (fun w23 k22 => ?_))))))))))))))))))))
  replace hbz := hbz.sD k22
  replace o6 := o6.sD k22
  replace hB := hB.trans k22
  refine bH 10 rfl rfl rfl rfl rfl (bH 15 rfl rfl rfl rfl rfl (am 4 rfl rfl rfl rfl (fun W' kk => aa (cs' := [_, _, _, _, _, _, _]) dL cx rfl (Bk.sD hbz kk) rfl rfl) (bH 10 rfl rfl rfl rfl rfl (bH 15 rfl rfl rfl rfl rfl (cE 145 146 rfl rfl rfl rfl rfl (fun W' kk => bk aC af rfl (by first | exact Rd.sD ‹_› kk | exact Rd.sD (Own.rd ‹_›) kk | exact Rd.sD (Rd.sD ‹_› hB) kk | exact Rd.sD (Own.rd (Own.sD ‹_› hB)) kk) rfl (by omega)) (am 147 rfl rfl rfl rfl (fun W' kk => eX au rfl (by first | exact Rd.sD ‹_› kk | exact Rd.sD (Own.rd ‹_›) kk | exact Rd.sD (Rd.sD ‹_› hB) kk | exact Rd.sD (Own.rd (Own.sD ‹_› hB)) kk) rfl) (bH 1 rfl rfl rfl rfl rfl (bH 15 rfl rfl rfl rfl rfl ?_))))))))
  refine cE 149 150 rfl rfl rfl rfl rfl (fun W' kk => bk aC af rfl (Rd.sD (hs.sD hB) kk) rfl (by constructor <;> first | omega | (show (_ : Int) < 8; omega))) (am 151 rfl rfl rfl rfl (fun W' kk => co (l := (eR s)) 2 au rfl (Rd.sD (hs.sD hB) kk) rfl (bK rfl)) (cE 148 152 rfl rfl rfl rfl rfl (fun W' kk => cO rfl rfl) (bq [(144, _), (153, _)] rfl rfl ⟨rfl, rfl, trivial⟩ rfl (a8 (vs := [_, _]) rfl (dH _ _ _ _ _ _ (X.c + s.c) _)) ?_)))
  rintro _ w24 ⟨rfl, k23⟩
  refine ⟨k23, ?_⟩
  replace hbz := hbz.sD k23
  replace o6 := o6.sD k23
  replace hB := hB.trans k23
  refine bx (a7 (bk aC af rfl (by first | assumption | exact Own.rd ‹_› | exact Rd.sD ‹_› hB | exact Own.rd (Own.sD ‹_› hB)) rfl (by omega)) rfl (ae (ec (u := .int .u64 ((X.c + s.c).toNat : Int)) af rfl rfl rfl o6 (bK rfl)) ?_))
  rintro _ w25 ⟨o7, k24, z6⟩
  have z_k24 := k24.size
  replace o7 : Own w25 _ 47 1 o 8 [.int .u64 ((X.a + s.a).toNat : Int), .int .u64 ((X.b + s.b).toNat : Int), .int .u64 ((X.c + s.c).toNat : Int), .int .u64 ((X.d).toNat : Int), .int .u64 ((X.e).toNat : Int), .int .u64 ((X.f).toNat : Int), .int .u64 ((X.g).toNat : Int), .int .u64 ((X.h).toNat : Int)] := o7
  replace hbz := hbz.keep k24 (fun hm => hno _ hm rfl)
  replace hB := hB.new k24 (fun x hx => .inl (go_o x hx))
  clear z_k24 z6
  refine a6 (a9 [(10, _), (15, _), (4, _), (1, _)] ⟨rfl, rfl, rfl, rfl, trivial⟩ (bf (aZ (ogm rfl rfl (a7 (bC (j := 3) (ay rfl rfl) (by decide)) rfl (oga rfl rfl (a6 (cF (a5 (a5 (aZ (ogm rfl rfl (a7 (bg rfl rfl) rfl (a6 (bd rfl (by decide) (ag (a5 (ab (bc 13 [0, 1, 2, 3, 4, 5, 6, 7, 8, 9, 10, 11, 12] [12] [] mixed [(10, _), (15, _), (4, _), (1, _)] ⟨rfl, rfl, rfl, rfl, trivial⟩ (by decide +kernel) rfl (fun w26 k25 => ?_))))))))))))))))))))
  replace hbz := hbz.sD k25
  replace o7 := o7.sD k25
  replace hB := hB.trans k25
  refine bH 10 rfl rfl rfl rfl rfl (bH 15 rfl rfl rfl rfl rfl (am 4 rfl rfl rfl rfl (fun W' kk => aa (cs' := [_, _, _, _, _, _, _]) dL cx rfl (Bk.sD hbz kk) rfl rfl) (bH 10 rfl rfl rfl rfl rfl (bH 15 rfl rfl rfl rfl rfl (cE 145 146 rfl rfl rfl rfl rfl (fun W' kk => bk aC af rfl (by first | exact Rd.sD ‹_› kk | exact Rd.sD (Own.rd ‹_›) kk | exact Rd.sD (Rd.sD ‹_› hB) kk | exact Rd.sD (Own.rd (Own.sD ‹_› hB)) kk) rfl (by omega)) (am 147 rfl rfl rfl rfl (fun W' kk => eX au rfl (by first | exact Rd.sD ‹_› kk | exact Rd.sD (Own.rd ‹_›) kk | exact Rd.sD (Rd.sD ‹_› hB) kk | exact Rd.sD (Own.rd (Own.sD ‹_› hB)) kk) rfl) (bH 1 rfl rfl rfl rfl rfl (bH 15 rfl rfl rfl rfl rfl ?_))))))))
  refine cE 149 150 rfl rfl rfl rfl rfl (fun W' kk => bk aC af rfl (Rd.sD (hs.sD hB) kk) rfl (by constructor <;> first | omega | (show (_ : Int) < 8; omega))) (am 151 rfl rfl rfl rfl (fun W' kk => co (l := (eR s)) 3 au rfl (Rd.sD (hs.sD hB) kk) rfl (bK rfl)) (cE 148 152 rfl rfl rfl rfl rfl (fun W' kk => cO rfl rfl) (bq [(144, _), (153, _)] rfl rfl ⟨rfl, rfl, trivial⟩ rfl (a8 (vs := [_, _]) rfl (dH _ _ _ _ _ _ (X.d + s.d) _)) ?_)))
  rintro _ w27 ⟨rfl, k26⟩
  refine ⟨k26, ?_⟩
  replace hbz := hbz.sD k26
  replace o7 := o7.sD k26
  replace hB := hB.trans k26
  refine bx (a7 (bk aC af rfl (by first | assumption | exact Own.rd ‹_› | exact Rd.sD ‹_› hB | exact Own.rd (Own.sD ‹_› hB)) rfl (by omega)) rfl (ae (ec (u := .int .u64 ((X.d + s.d).toNat : Int)) af rfl rfl rfl o7 (bK rfl)) ?_))
  rintro _ w28 ⟨o8, k27, z7⟩
  have z_k27 := k27.size
  replace o8 : Own w28 _ 47 1 o 8 [.int .u64 ((X.a + s.a).toNat : Int), .int .u64 ((X.b + s.b).toNat : Int), .int .u64 ((X.c + s.c).toNat : Int), .int .u64 ((X.d + s.d).toNat : Int), .int .u64 ((X.e).toNat : Int), .int .u64 ((X.f).toNat : Int), .int .u64 ((X.g).toNat : Int), .int .u64 ((X.h).toNat : Int)] := o8
  replace hbz := hbz.keep k27 (fun hm => hno _ hm rfl)
  replace hB := hB.new k27 (fun x hx => .inl (go_o x hx))
  clear z_k27 z7
  refine a6 (a9 [(10, _), (15, _), (4, _), (1, _)] ⟨rfl, rfl, rfl, rfl, trivial⟩ (bf (aZ (ogm rfl rfl (a7 (bC (j := 4) (ay rfl rfl) (by decide)) rfl (oga rfl rfl (a6 (cF (a5 (a5 (aZ (ogm rfl rfl (a7 (bg rfl rfl) rfl (a6 (bd rfl (by decide) (ag (a5 (ab (bc 13 [0, 1, 2, 3, 4, 5, 6, 7, 8, 9, 10, 11, 12] [12] [] mixed [(10, _), (15, _), (4, _), (1, _)] ⟨rfl, rfl, rfl, rfl, trivial⟩ (by decide +kernel) rfl (fun w29 k28 => ?_))))))))))))))))))))
  replace hbz := hbz.sD k28
  replace o8 := o8.sD k28
  replace hB := hB.trans k28
  refine bH 10 rfl rfl rfl rfl rfl (bH 15 rfl rfl rfl rfl rfl (am 4 rfl rfl rfl rfl (fun W' kk => aa (cs' := [_, _, _, _, _, _, _]) dL cx rfl (Bk.sD hbz kk) rfl rfl) (bH 10 rfl rfl rfl rfl rfl (bH 15 rfl rfl rfl rfl rfl (cE 145 146 rfl rfl rfl rfl rfl (fun W' kk => bk aC af rfl (by first | exact Rd.sD ‹_› kk | exact Rd.sD (Own.rd ‹_›) kk | exact Rd.sD (Rd.sD ‹_› hB) kk | exact Rd.sD (Own.rd (Own.sD ‹_› hB)) kk) rfl (by omega)) (am 147 rfl rfl rfl rfl (fun W' kk => eX au rfl (by first | exact Rd.sD ‹_› kk | exact Rd.sD (Own.rd ‹_›) kk | exact Rd.sD (Rd.sD ‹_› hB) kk | exact Rd.sD (Own.rd (Own.sD ‹_› hB)) kk) rfl) (bH 1 rfl rfl rfl rfl rfl (bH 15 rfl rfl rfl rfl rfl ?_))))))))
  refine cE 149 150 rfl rfl rfl rfl rfl (fun W' kk => bk aC af rfl (Rd.sD (hs.sD hB) kk) rfl (by constructor <;> first | omega | (show (_ : Int) < 8; omega))) (am 151 rfl rfl rfl rfl (fun W' kk => co (l := (eR s)) 4 au rfl (Rd.sD (hs.sD hB) kk) rfl (bK rfl)) (cE 148 152 rfl rfl rfl rfl rfl (fun W' kk => cO rfl rfl) (bq [(144, _), (153, _)] rfl rfl ⟨rfl, rfl, trivial⟩ rfl (a8 (vs := [_, _]) rfl (dH _ _ _ _ _ _ (X.e + s.e) _)) ?_)))
  rintro _ w30 ⟨rfl, k29⟩
  refine ⟨k29, ?_⟩
  replace hbz := hbz.sD k29
  replace o8 := o8.sD k29
  replace hB := hB.trans k29
  refine bx (a7 (bk aC af rfl (by first | assumption | exact Own.rd ‹_› | exact Rd.sD ‹_› hB | exact Own.rd (Own.sD ‹_› hB)) rfl (by omega)) rfl (ae (ec (u := .int .u64 ((X.e + s.e).toNat : Int)) af rfl rfl rfl o8 (bK rfl)) ?_))
  rintro _ w31 ⟨o9, k30, z8⟩
  have z_k30 := k30.size
  replace o9 : Own w31 _ 47 1 o 8 [.int .u64 ((X.a + s.a).toNat : Int), .int .u64 ((X.b + s.b).toNat : Int), .int .u64 ((X.c + s.c).toNat : Int), .int .u64 ((X.d + s.d).toNat : Int), .int .u64 ((X.e + s.e).toNat : Int), .int .u64 ((X.f).toNat : Int), .int .u64 ((X.g).toNat : Int), .int .u64 ((X.h).toNat : Int)] := o9
  replace hbz := hbz.keep k30 (fun hm => hno _ hm rfl)
  replace hB := hB.new k30 (fun x hx => .inl (go_o x hx))
  clear z_k30 z8
  refine a6 (a9 [(10, _), (15, _), (4, _), (1, _)] ⟨rfl, rfl, rfl, rfl, trivial⟩ (bf (aZ (ogm rfl rfl (a7 (bC (j := 5) (ay rfl rfl) (by decide)) rfl (oga rfl rfl (a6 (cF (a5 (a5 (aZ (ogm rfl rfl (a7 (bg rfl rfl) rfl (a6 (bd rfl (by decide) (ag (a5 (ab (bc 13 [0, 1, 2, 3, 4, 5, 6, 7, 8, 9, 10, 11, 12] [12] [] mixed [(10, _), (15, _), (4, _), (1, _)] ⟨rfl, rfl, rfl, rfl, trivial⟩ (by decide +kernel) rfl (fun w32 k31 => ?_))))))))))))))))))))
  replace hbz := hbz.sD k31
  replace o9 := o9.sD k31
  replace hB := hB.trans k31
  refine bH 10 rfl rfl rfl rfl rfl (bH 15 rfl rfl rfl rfl rfl (am 4 rfl rfl rfl rfl (fun W' kk => aa (cs' := [_, _, _, _, _, _, _]) dL cx rfl (Bk.sD hbz kk) rfl rfl) (bH 10 rfl rfl rfl rfl rfl (bH 15 rfl rfl rfl rfl rfl (cE 145 146 rfl rfl rfl rfl rfl (fun W' kk => bk aC af rfl (by first | exact Rd.sD ‹_› kk | exact Rd.sD (Own.rd ‹_›) kk | exact Rd.sD (Rd.sD ‹_› hB) kk | exact Rd.sD (Own.rd (Own.sD ‹_› hB)) kk) rfl (by omega)) (am 147 rfl rfl rfl rfl (fun W' kk => eX au rfl (by first | exact Rd.sD ‹_› kk | exact Rd.sD (Own.rd ‹_›) kk | exact Rd.sD (Rd.sD ‹_› hB) kk | exact Rd.sD (Own.rd (Own.sD ‹_› hB)) kk) rfl) (bH 1 rfl rfl rfl rfl rfl (bH 15 rfl rfl rfl rfl rfl ?_))))))))
  refine cE 149 150 rfl rfl rfl rfl rfl (fun W' kk => bk aC af rfl (Rd.sD (hs.sD hB) kk) rfl (by constructor <;> first | omega | (show (_ : Int) < 8; omega))) (am 151 rfl rfl rfl rfl (fun W' kk => co (l := (eR s)) 5 au rfl (Rd.sD (hs.sD hB) kk) rfl (bK rfl)) (cE 148 152 rfl rfl rfl rfl rfl (fun W' kk => cO rfl rfl) (bq [(144, _), (153, _)] rfl rfl ⟨rfl, rfl, trivial⟩ rfl (a8 (vs := [_, _]) rfl (dH _ _ _ _ _ _ (X.f + s.f) _)) ?_)))
  rintro _ w33 ⟨rfl, k32⟩
  refine ⟨k32, ?_⟩
  replace hbz := hbz.sD k32
  replace o9 := o9.sD k32
  replace hB := hB.trans k32
  refine bx (a7 (bk aC af rfl (by first | assumption | exact Own.rd ‹_› | exact Rd.sD ‹_› hB | exact Own.rd (Own.sD ‹_› hB)) rfl (by omega)) rfl (ae (ec (u := .int .u64 ((X.f + s.f).toNat : Int)) af rfl rfl rfl o9 (bK rfl)) ?_))
  rintro _ w34 ⟨o10, k33, z9⟩
  have z_k33 := k33.size
  replace o10 : Own w34 _ 47 1 o 8 [.int .u64 ((X.a + s.a).toNat : Int), .int .u64 ((X.b + s.b).toNat : Int), .int .u64 ((X.c + s.c).toNat : Int), .int .u64 ((X.d + s.d).toNat : Int), .int .u64 ((X.e + s.e).toNat : Int), .int .u64 ((X.f + s.f).toNat : Int), .int .u64 ((X.g).toNat : Int), .int .u64 ((X.h).toNat : Int)] := o10
  replace hbz := hbz.keep k33 (fun hm => hno _ hm rfl)
  replace hB := hB.new k33 (fun x hx => .inl (go_o x hx))
  clear z_k33 z9
  refine a6 (a9 [(10, _), (15, _), (4, _), (1, _)] ⟨rfl, rfl, rfl, rfl, trivial⟩ (bf (aZ (ogm rfl rfl (a7 (bC (j := 6) (ay rfl rfl) (by decide)) rfl (oga rfl rfl (a6 (cF (a5 (a5 (aZ (ogm rfl rfl (a7 (bg rfl rfl) rfl (a6 (bd rfl (by decide) (ag (a5 (ab (bc 13 [0, 1, 2, 3, 4, 5, 6, 7, 8, 9, 10, 11, 12] [12] [] mixed [(10, _), (15, _), (4, _), (1, _)] ⟨rfl, rfl, rfl, rfl, trivial⟩ (by decide +kernel) rfl (fun w35 k34 => ?_))))))))))))))))))))
  replace hbz := hbz.sD k34
  replace o10 := o10.sD k34
  replace hB := hB.trans k34
  refine bH 10 rfl rfl rfl rfl rfl (bH 15 rfl rfl rfl rfl rfl (am 4 rfl rfl rfl rfl (fun W' kk => aa (cs' := [_, _, _, _, _, _, _]) dL cx rfl (Bk.sD hbz kk) rfl rfl) (bH 10 rfl rfl rfl rfl rfl (bH 15 rfl rfl rfl rfl rfl (cE 145 146 rfl rfl rfl rfl rfl (fun W' kk => bk aC af rfl (by first | exact Rd.sD ‹_› kk | exact Rd.sD (Own.rd ‹_›) kk | exact Rd.sD (Rd.sD ‹_› hB) kk | exact Rd.sD (Own.rd (Own.sD ‹_› hB)) kk) rfl (by omega)) (am 147 rfl rfl rfl rfl (fun W' kk => eX au rfl (by first | exact Rd.sD ‹_› kk | exact Rd.sD (Own.rd ‹_›) kk | exact Rd.sD (Rd.sD ‹_› hB) kk | exact Rd.sD (Own.rd (Own.sD ‹_› hB)) kk) rfl) (bH 1 rfl rfl rfl rfl rfl (bH 15 rfl rfl rfl rfl rfl ?_))))))))
  refine cE 149 150 rfl rfl rfl rfl rfl (fun W' kk => bk aC af rfl (Rd.sD (hs.sD hB) kk) rfl (by constructor <;> first | omega | (show (_ : Int) < 8; omega))) (am 151 rfl rfl rfl rfl (fun W' kk => co (l := (eR s)) 6 au rfl (Rd.sD (hs.sD hB) kk) rfl (bK rfl)) (cE 148 152 rfl rfl rfl rfl rfl (fun W' kk => cO rfl rfl) (bq [(144, _), (153, _)] rfl rfl ⟨rfl, rfl, trivial⟩ rfl (a8 (vs := [_, _]) rfl (dH _ _ _ _ _ _ (X.g + s.g) _)) ?_)))
  rintro _ w36 ⟨rfl, k35⟩
  refine ⟨k35, ?_⟩
  replace hbz := hbz.sD k35
  replace o10 := o10.sD k35
  replace hB := hB.trans k35
  refine bx (a7 (bk aC af rfl (by first | assumption | exact Own.rd ‹_› | exact Rd.sD ‹_› hB | exact Own.rd (Own.sD ‹_› hB)) rfl (by omega)) rfl (ae (ec (u := .int .u64 ((X.g + s.g).toNat : Int)) af rfl rfl rfl o10 (bK rfl)) ?_))
  rintro _ w37 ⟨o11, k36, z10⟩
  have z_k36 := k36.size
  replace o11 : Own w37 _ 47 1 o 8 [.int .u64 ((X.a + s.a).toNat : Int), .int .u64 ((X.b + s.b).toNat : Int), .int .u64 ((X.c + s.c).toNat : Int), .int .u64 ((X.d + s.d).toNat : Int), .int .u64 ((X.e + s.e).toNat : Int), .int .u64 ((X.f + s.f).toNat : Int), .int .u64 ((X.g + s.g).toNat : Int), .int .u64 ((X.h).toNat : Int)] := o11
  replace hbz := hbz.keep k36 (fun hm => hno _ hm rfl)
  replace hB := hB.new k36 (fun x hx => .inl (go_o x hx))
  clear z_k36 z10
  refine a6 (a9 [(10, _), (15, _), (4, _), (1, _)] ⟨rfl, rfl, rfl, rfl, trivial⟩ (bf (aZ (ogm rfl rfl (a7 (bC (j := 7) (ay rfl rfl) (by decide)) rfl (oga rfl rfl (a6 (cF (a5 (a5 (aZ (ogm rfl rfl (a7 (bg rfl rfl) rfl (a6 (bd rfl (by decide) (ag (a5 (ab (bc 13 [0, 1, 2, 3, 4, 5, 6, 7, 8, 9, 10, 11, 12] [12] [] mixed [(10, _), (15, _), (4, _), (1, _)] ⟨rfl, rfl, rfl, rfl, trivial⟩ (by decide +kernel) rfl (fun w38 k37 => ?_))))))))))))))))))))
  replace hbz := hbz.sD k37
  replace o11 := o11.sD k37
  replace hB := hB.trans k37
  refine bH 10 rfl rfl rfl rfl rfl (bH 15 rfl rfl rfl rfl rfl (am 4 rfl rfl rfl rfl (fun W' kk => aa (cs' := [_, _, _, _, _, _, _]) dL cx rfl (Bk.sD hbz kk) rfl rfl) (bH 10 rfl rfl rfl rfl rfl (bH 15 rfl rfl rfl rfl rfl (cE 145 146 rfl rfl rfl rfl rfl (fun W' kk => bk aC af rfl (by first | exact Rd.sD ‹_› kk | exact Rd.sD (Own.rd ‹_›) kk | exact Rd.sD (Rd.sD ‹_› hB) kk | exact Rd.sD (Own.rd (Own.sD ‹_› hB)) kk) rfl (by omega)) (am 147 rfl rfl rfl rfl (fun W' kk => eX au rfl (by first | exact Rd.sD ‹_› kk | exact Rd.sD (Own.rd ‹_›) kk | exact Rd.sD (Rd.sD ‹_› hB) kk | exact Rd.sD (Own.rd (Own.sD ‹_› hB)) kk) rfl) (bH 1 rfl rfl rfl rfl rfl (bH 15 rfl rfl rfl rfl rfl ?_))))))))
  refine cE 149 150 rfl rfl rfl rfl rfl (fun W' kk => bk aC af rfl (Rd.sD (hs.sD hB) kk) rfl (by constructor <;> first | omega | (show (_ : Int) < 8; omega))) (am 151 rfl rfl rfl rfl (fun W' kk => co (l := (eR s)) 7 au rfl (Rd.sD (hs.sD hB) kk) rfl (bK rfl)) (cE 148 152 rfl rfl rfl rfl rfl (fun W' kk => cO rfl rfl) (bq [(144, _), (153, _)] rfl rfl ⟨rfl, rfl, trivial⟩ rfl (a8 (vs := [_, _]) rfl (dH _ _ _ _ _ _ (X.h + s.h) _)) ?_)))
  rintro _ w39 ⟨rfl, k38⟩
  refine ⟨k38, ?_⟩
  replace hbz := hbz.sD k38
  replace o11 := o11.sD k38
  replace hB := hB.trans k38
  refine bx (a7 (bk aC af rfl (by first | assumption | exact Own.rd ‹_› | exact Rd.sD ‹_› hB | exact Own.rd (Own.sD ‹_› hB)) rfl (by omega)) rfl (ae (ec (u := .int .u64 ((X.h + s.h).toNat : Int)) af rfl rfl rfl o11 (bK rfl)) ?_))
  rintro _ w40 ⟨o12, k39, z11⟩
  have z_k39 := k39.size
  replace o12 : Own w40 _ 47 1 o 8 [.int .u64 ((X.a + s.a).toNat : Int), .int .u64 ((X.b + s.b).toNat : Int), .int .u64 ((X.c + s.c).toNat : Int), .int .u64 ((X.d + s.d).toNat : Int), .int .u64 ((X.e + s.e).toNat : Int), .int .u64 ((X.f + s.f).toNat : Int), .int .u64 ((X.g + s.g).toNat : Int), .int .u64 ((X.h + s.h).toNat : Int)] := o12
  replace hB := hB.new k39 (fun x hx => .inl (go_o x hx))
  clear z_k39 z11
  refine a6 (a9 [(10, _), (15, _), (4, _), (1, _)] ⟨rfl, rfl, rfl, rfl, trivial⟩ (bf (aZ (ogm rfl rfl (a7 (bC (j := 8) (ay rfl rfl) (by decide)) rfl (oga rfl rfl (a6 (cF (a5 (a5 (aZ (ogm rfl rfl (a7 (bg rfl rfl) rfl (a6 (ck rfl (by decide) (bF rfl (a5 (aZ (ogm rfl rfl (oga rfl rfl (a6 (bN hfin Tryz.results106 rfl ?_))))))))))))))))))))))
  have e : eR (blk cS Kl bs s) = [X.a + s.a, X.b + s.b, X.c + s.c, X.d + s.d, X.e + s.e, X.f + s.f, X.g + s.g, X.h + s.h] := by unfold blk; rw [show cS.R = 80 from rfl, show 80 - 16 = 64 from rfl, ← hX]; simp only [qY, eR]; rw [BitVec.add_comm s.a, BitVec.add_comm s.b, BitVec.add_comm s.c, BitVec.add_comm s.d, BitVec.add_comm s.e, BitVec.add_comm s.f, BitVec.add_comm s.g, BitVec.add_comm s.h]
  refine ⟨?_, hB⟩
  rw [e]; exact o12
theorem mZ (w : World) : Rets Tryz.prog 104 [] w (fun v w' => OwnW w' w.heap.size v (KB Hl) ∧ Keep [] w w') := by
 have hB : Keep [] w w := Keep.refl _ _
 refine ac Tryz.func104 rfl (by decide) Tryz.ntmps104 rfl (fun fin _ hfin => a5 (aZ (oga rfl rfl (a6 (a5 (aZ (ad (eO (m := 8) (xs := [.const (.int .u64 (7640891576956012808)), .const (.int .u64 (13503953896175478587)), .const (.int .u64 (4354685564936845355)), .const (.int .u64 (11912009170470909681)), .const (.int .u64 (5840696475078001361)), .const (.int .u64 (11170449401992604703)), .const (.int .u64 (2270897969802886507)), .const (.int .u64 (6620516959819538809))]) (vs := [_, _, _, _, _, _, _, _]) aC af (by decide) rfl rfl rfl (by simp only [List.forall_mem_cons]; exact ⟨rfl, rfl, rfl, rfl, rfl, rfl, rfl, rfl, fun v hv => by cases hv⟩) (by decide)) rfl ?_)))))))
 rintro v1 w1 ⟨o1, nn1, lb1, k1, z1⟩
 replace hB := hB.trans k1
 refine oga rfl rfl (a6 (bN hfin Tryz.results104 rfl ?_))
 refine ⟨?_, hB⟩
 have e : wc (KB Hl) = [.int .u64 7640891576956012808, .int .u64 13503953896175478587, .int .u64 4354685564936845355, .int .u64 11912009170470909681, .int .u64 5840696475078001361, .int .u64 11170449401992604703, .int .u64 2270897969802886507, .int .u64 6620516959819538809] := by kernel_rfl
 unfold OwnW
 rw [e]; exact o1
theorem ir (w : World) : Rets Tryz.prog 103 [] w (fun v w' => OwnW w' w.heap.size v (KB Kl) ∧ Keep [] w w') := by
 have hB : Keep [] w w := Keep.refl _ _
 refine ac Tryz.func103 rfl (by decide) Tryz.ntmps103 rfl (fun fin _ hfin => ?_)
 refine a5 (aZ (oga rfl rfl (a6 (a5 (aZ (ad (eO (m := 80) (xs := [.const (.int .u64 (4794697086780616226)), .const (.int .u64 (8158064640168781261)), .const (.int .u64 (13096744586834688815)), .const (.int .u64 (16840607885511220156)), .const (.int .u64 (4131703408338449720)), .const (.int .u64 (6480981068601479193)), .const (.int .u64 (10538285296894168987)), .const (.int .u64 (12329834152419229976)), .const (.int .u64 (15566598209576043074)), .const (.int .u64 (1334009975649890238)), .const (.int .u64 (2608012711638119052)), .const (.int .u64 (6128411473006802146)), .const (.int .u64 (8268148722764581231)), .const (.int .u64 (9286055187155687089)), .const (.int .u64 (11230858885718282805)), .const (.int .u64 (13951009754708518548)), .const (.int .u64 (16472876342353939154)), .const (.int .u64 (17275323862435702243)), .const (.int .u64 (1135362057144423861)), .const (.int .u64 (2597628984639134821)), .const (.int .u64 (3308224258029322869)), .const (.int .u64 (5365058923640841347)), .const (.int .u64 (6679025012923562964)), .const (.int .u64 (8573033837759648693)), .const (.int .u64 (10970295158949994411)), .const (.int .u64 (12119686244451234320)), .const (.int .u64 (12683024718118986047)), .const (.int .u64 (13788192230050041572)), .const (.int .u64 (14330467153632333762)), .const (.int .u64 (15395433587784984357)), .const (.int .u64 (489312712824947311)), .const (.int .u64 (1452737877330783856)), .const (.int .u64 (2861767655752347644)), .const (.int .u64 (3322285676063803686)), .const (.int .u64 (5560940570517711597)), .const (.int .u64 (5996557281743188959)), .const (.int .u64 (7280758554555802590)), .const (.int .u64 (8532644243296465576)), .const (.int .u64 (9350256976987008742)), .const (.int .u64 (10552545826968843579)), .const (.int .u64 (11727347734174303076)), .const (.int .u64 (12113106623233404929)), .const (.int .u64 (14000437183269869457)), .const (.int .u64 (14369950271660146224)), .const (.int .u64 (15101387698204529176)), .const (.int .u64 (15463397548674623760)), .const (.int .u64 (17586052441742319658)), .const (.int .u64 (1182934255886127544)), .const (.int .u64 (1847814050463011016)), .const (.int .u64 (2177327727835720531)), .const (.int .u64 (2830643537854262169)), .const (.int .u64 (3796741975233480872)), .const (.int .u64 (4115178125766777443)), .const (.int .u64 (5681478168544905931)), .const (.int .u64 (6601373596472566643)), .const (.int .u64 (7507060721942968483)), .const (.int .u64 (8399075790359081724)), .const (.int .u64 (8693463985226723168)), .const (.int .u64 (9568029438360202098)), .const (.int .u64 (10144078919501101548)), .const (.int .u64 (10430055236837252648)), .const (.int .u64 (11840083180663258601)), .const (.int .u64 (13761210420658862357)), .const (.int .u64 (14299343276471374635)), .const (.int .u64 (14566680578165727644)), .const (.int .u64 (15097957966210449927)), .const (.int .u64 (16922976911328602910)), .const (.int .u64 (17689382322260857208)), .const (.int .u64 (500013540394364858)), .const (.int .u64 (748580250866718886)), .const (.int .u64 (1242879168328830382)), .const (.int .u64 (1977374033974150939)), .const (.int .u64 (2944078676154940804)), .const (.int .u64 (3659926193048069267)), .const (.int .u64 (4368137639120453308)), .const (.int .u64 (4836135668995329356)), .const (.int .u64 (5532061633213252278)), .const (.int .u64 (6448918945643986474)), .const (.int .u64 (6902733635092675308)), .const (.int .u64 (7801388544844847127))]) (vs := [_, _, _, _, _, _, _, _, _, _, _, _, _, _, _, _, _, _, _, _, _, _, _, _, _, _, _, _, _, _, _, _, _, _, _, _, _, _, _, _, _, _, _, _, _, _, _, _, _, _, _, _, _, _, _, _, _, _, _, _, _, _, _, _, _, _, _, _, _, _, _, _, _, _, _, _, _, _, _, _]) aC af (by decide) rfl rfl rfl (by simp only [List.forall_mem_cons]; exact ⟨rfl, rfl, rfl, rfl, rfl, rfl, rfl, rfl, rfl, rfl, rfl, rfl, rfl, rfl, rfl, rfl, rfl, rfl, rfl, rfl, rfl, rfl, rfl, rfl, rfl, rfl, rfl, rfl, rfl, rfl, rfl, rfl, rfl, rfl, rfl, rfl, rfl, rfl, rfl, rfl, rfl, rfl, rfl, rfl, rfl, rfl, rfl, rfl, rfl, rfl, rfl, rfl, rfl, rfl, rfl, rfl, rfl, rfl, rfl, rfl, rfl, rfl, rfl, rfl, rfl, rfl, rfl, rfl, rfl, rfl, rfl, rfl, rfl, rfl, rfl, rfl, rfl, rfl, rfl, rfl, fun v hv => by cases hv⟩) (by decide)) rfl ?_))))))
 rintro v1 w1 ⟨o1, nn1, lb1, k1, z1⟩
 replace hB := hB.trans k1
 refine oga rfl rfl (a6 (bN hfin Tryz.results103 rfl ?_))
 refine ⟨?_, hB⟩
 have e : wc (KB Kl) = [.int .u64 4794697086780616226, .int .u64 8158064640168781261, .int .u64 13096744586834688815, .int .u64 16840607885511220156, .int .u64 4131703408338449720, .int .u64 6480981068601479193, .int .u64 10538285296894168987, .int .u64 12329834152419229976, .int .u64 15566598209576043074, .int .u64 1334009975649890238, .int .u64 2608012711638119052, .int .u64 6128411473006802146, .int .u64 8268148722764581231, .int .u64 9286055187155687089, .int .u64 11230858885718282805, .int .u64 13951009754708518548, .int .u64 16472876342353939154, .int .u64 17275323862435702243, .int .u64 1135362057144423861, .int .u64 2597628984639134821, .int .u64 3308224258029322869, .int .u64 5365058923640841347, .int .u64 6679025012923562964, .int .u64 8573033837759648693, .int .u64 10970295158949994411, .int .u64 12119686244451234320, .int .u64 12683024718118986047, .int .u64 13788192230050041572, .int .u64 14330467153632333762, .int .u64 15395433587784984357, .int .u64 489312712824947311, .int .u64 1452737877330783856, .int .u64 2861767655752347644, .int .u64 3322285676063803686, .int .u64 5560940570517711597, .int .u64 5996557281743188959, .int .u64 7280758554555802590, .int .u64 8532644243296465576, .int .u64 9350256976987008742, .int .u64 10552545826968843579, .int .u64 11727347734174303076, .int .u64 12113106623233404929, .int .u64 14000437183269869457, .int .u64 14369950271660146224, .int .u64 15101387698204529176, .int .u64 15463397548674623760, .int .u64 17586052441742319658, .int .u64 1182934255886127544, .int .u64 1847814050463011016, .int .u64 2177327727835720531, .int .u64 2830643537854262169, .int .u64 3796741975233480872, .int .u64 4115178125766777443, .int .u64 5681478168544905931, .int .u64 6601373596472566643, .int .u64 7507060721942968483, .int .u64 8399075790359081724, .int .u64 8693463985226723168, .int .u64 9568029438360202098, .int .u64 10144078919501101548, .int .u64 10430055236837252648, .int .u64 11840083180663258601, .int .u64 13761210420658862357, .int .u64 14299343276471374635, .int .u64 14566680578165727644, .int .u64 15097957966210449927, .int .u64 16922976911328602910, .int .u64 17689382322260857208, .int .u64 500013540394364858, .int .u64 748580250866718886, .int .u64 1242879168328830382, .int .u64 1977374033974150939, .int .u64 2944078676154940804, .int .u64 3659926193048069267, .int .u64 4368137639120453308, .int .u64 4836135668995329356, .int .u64 5532061633213252278, .int .u64 6448918945643986474, .int .u64 6902733635092675308, .int .u64 7801388544844847127] := by kernel_rfl
 unfold OwnW
 rw [e]; exact o1
theorem mX (w : World) : Rets Tryz.prog 83 [] w (fun v w' => ∃ l0 l1 u0 u1, v = .agg [.int .i64 64, .int .i64 128, .int .i64 80, l0, l1, u0, u1].toArray ∧ Rd w' 1 l0 3 [.int .i64 1, .int .i64 8, .int .i64 7] ∧ Rd w' 1 l1 3 [.int .i64 19, .int .i64 61, .int .i64 6] ∧ Rd w' 1 u0 3 [.int .i64 28, .int .i64 34, .int .i64 39] ∧ Rd w' 1 u1 3 [.int .i64 14, .int .i64 18, .int .i64 41] ∧ Keep [] w w') := by
 have hB : Keep [] w w := Keep.refl _ _
 refine ac Tryz.func83 rfl (by decide) Tryz.ntmps83 rfl (fun fin _ hfin => a5 (aZ (ad (aj cx) rfl ?_)))
 rintro _ w1 ⟨b1, rfl, eb1, hb1, k1, z1⟩
 have ge_b1 : w.heap.size ≤ b1 := by have := hB.size; omega
 replace hB := hB.trans k1
 clear eb1 z1
 refine a6 (a5 (aZ (ad (eO (m := 3) (xs := [.const (.int .i64 (1)), .const (.int .i64 (8)), .const (.int .i64 (7))]) (vs := [_, _, _]) aU cj (by decide) rfl rfl rfl (by simp only [List.forall_mem_cons]; exact ⟨rfl, rfl, rfl, fun v hv => by cases hv⟩) (by decide)) rfl ?_)))
 rintro v1 w2 ⟨o1, nn1, lb1, k2, z2⟩
 have sb_b1_o1 := fun x hx => (show x ≠ b1 from by have h1 := (o1.blk x hx).1; have h2 := hb1.lt; omega)
 obtain ⟨hB, hb1⟩ := bL k2 hB hb1
 refine ad (eO (m := 3) (xs := [.const (.int .i64 (19)), .const (.int .i64 (61)), .const (.int .i64 (6))]) (vs := [_, _, _]) aU cj (by decide) rfl rfl rfl (by simp only [List.forall_mem_cons]; exact ⟨rfl, rfl, rfl, fun v hv => by cases hv⟩) (by decide)) rfl ?_
 rintro v2 w3 ⟨o2, nn2, lb2, k3, z3⟩
 have sb_b1_o2 := fun x hx => (show x ≠ b1 from by have h1 := (o2.blk x hx).1; have h2 := hb1.lt; omega)
 replace hb1 := hb1.sD k3
 replace o1 := o1.sD k3
 replace hB := hB.trans k3
 refine ad (eO (m := 3) (xs := [.const (.int .i64 (28)), .const (.int .i64 (34)), .const (.int .i64 (39))]) (vs := [_, _, _]) aU cj (by decide) rfl rfl rfl (by simp only [List.forall_mem_cons]; exact ⟨rfl, rfl, rfl, fun v hv => by cases hv⟩) (by decide)) rfl ?_
 rintro v3 w4 ⟨o3, nn3, lb3, k4, z4⟩
 have sb_b1_o3 := fun x hx => (show x ≠ b1 from by have h1 := (o3.blk x hx).1; have h2 := hb1.lt; omega)
 replace hb1 := hb1.sD k4
 replace o1 := o1.sD k4
 replace o2 := o2.sD k4
 replace hB := hB.trans k4
 refine ad (eO (m := 3) (xs := [.const (.int .i64 (14)), .const (.int .i64 (18)), .const (.int .i64 (41))]) (vs := [_, _, _]) aU cj (by decide) rfl rfl rfl (by simp only [List.forall_mem_cons]; exact ⟨rfl, rfl, rfl, fun v hv => by cases hv⟩) (by decide)) rfl ?_
 rintro v4 w5 ⟨o4, nn4, lb4, k5, z5⟩
 have sb_b1_o4 := fun x hx => (show x ≠ b1 from by have h1 := (o4.blk x hx).1; have h2 := hb1.lt; omega)
 replace hb1 := hb1.sD k5
 replace o1 := o1.sD k5
 replace o2 := o2.sD k5
 replace o3 := o3.sD k5
 replace hB := hB.trans k5
 refine a7 (dJ (idx := [0, 1, 2, 3, 4, 5, 6]) (xs := [.const (.int .i64 64), .const (.int .i64 128), .const (.int .i64 80), .tmp 1, .tmp 2, .tmp 3, .tmp 4]) (vs := [_, _, _, _, _, _, _]) (css := [[_], [_], [_], [_], [_], [_], [_]]) (out := [.int .i64 64, .int .i64 128, .int .i64 80, v1, v2, v3, v4]) pl116 cx rfl rfl ⟨rfl, rfl, rfl, Rd.cells (Own.rd o1), Rd.cells (Own.rd o2), Rd.cells (Own.rd o3), Rd.cells (Own.rd o4), trivial⟩ rfl rfl) rfl (ae (bB cx rfl rfl rfl (by simp only [List.forall_mem_cons]; exact ⟨rfl, rfl, rfl, o1.rd.one, o2.rd.one, o3.rd.one, o4.rd.one, fun v hv => by cases hv⟩) hb1 rfl) ?_)
 rintro _ w6 ⟨hb2, k6, z6⟩
 replace o1 := o1.keep k6 (fun x hx hm => sb_b1_o1 x hx (List.mem_singleton.1 hm))
 replace o2 := o2.keep k6 (fun x hx hm => sb_b1_o2 x hx (List.mem_singleton.1 hm))
 replace o3 := o3.keep k6 (fun x hx hm => sb_b1_o3 x hx (List.mem_singleton.1 hm))
 replace o4 := o4.keep k6 (fun x hx hm => sb_b1_o4 x hx (List.mem_singleton.1 hm))
 replace hB := hB.new k6 (nw ge_b1)
 clear z6
 replace hb2 : Bk w6 b1 _ [.int .i64 64, .int .i64 128, .int .i64 80, v1, v2, v3, v4] := hb2
 refine a6 (bW hfin Tryz.results83 rfl (ak dL cx hb2 rfl)  ?_)
 exact ⟨_, _, _, _, rfl, o1.rd, o2.rd, o3.rd, o4.rd, hB⟩
end Go.Proofs.YtllmbkmghmmhfaaGreatDoor.W
