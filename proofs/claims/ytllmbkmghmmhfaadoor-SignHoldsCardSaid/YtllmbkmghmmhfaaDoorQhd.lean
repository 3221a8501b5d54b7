/- Contracts and laws, part 4 of 5: what each function of the program and of the reference computes, shown once. -/
import Derived.Shelf.Spec.BitsCarry
import Derived.Test.YtllmbkmghmmhfaaDoorQhc
set_option maxRecDepth 100000
set_option maxHeartbeats 4000000
set_option linter.unusedVariables false
set_option linter.unusedSimpArgs false
namespace Go.Fld
open Go Go.Eng Go.Ed Go.Byt
theorem mF {f : Nat → Int} (hf : Wd f) {i : Nat} (hi : i < 72) : f (i / 8) / 2 ^ (8 * ((i : Int) % 8)).toNat % 256 = vW f 9 / 256 ^ i % 256 := by
 have e8 : (8 * ((i : Int) % 8)).toNat = 8 * (i % 8) := by omega
 rw [e8, ← fW]
 have e : (256 : Int) ^ i = 18446744073709551616 ^ (i / 8) * 256 ^ (i % 8) := by
   rw [show (18446744073709551616 : Int) = 256 ^ 8 by decide, ← Int.pow_mul, ← Int.pow_add]; congr 1; omega
 have hs := gc f (i / 8) (9 - i / 8)
 rw [show i / 8 + (9 - i / 8) = 9 by omega] at hs
 have hb := gI (f := f) (n := i / 8) (fun j hj => hf j (by omega))
 have hw := powW (i / 8)
 have hd : vW f 9 / 18446744073709551616 ^ (i / 8) = vW (fun j => f (i / 8 + j)) (9 - i / 8) := by
   rw [hs, Int.add_mul_ediv_left _ _ (by omega), Int.ediv_eq_zero_of_lt hb.1 hb.2, Int.zero_add]
 rw [e, ← Int.ediv_ediv_of_nonneg (by omega), hd]
 have h1 := gc (fun j => f (i / 8 + j)) 1 (9 - i / 8 - 1)
 rw [show 1 + (9 - i / 8 - 1) = 9 - i / 8 by omega] at h1
 have h2 : vW (fun j => f (i / 8 + j)) 1 = f (i / 8) := by simp [vW]
 rw [h1, h2, Int.pow_one]
 generalize vW (fun j => (fun j => f (i / 8 + j)) (1 + j)) (9 - i / 8 - 1) = r
 generalize f (i / 8) = x
 have hm : i % 8 = 0 ∨ i % 8 = 1 ∨ i % 8 = 2 ∨ i % 8 = 3 ∨ i % 8 = 4 ∨ i % 8 = 5 ∨ i % 8 = 6 ∨ i % 8 = 7 := by omega
 rcases hm with h | h | h | h | h | h | h | h <;> rw [h] <;> simp <;> omega
def MinI (w l g : Nat → Int) (c : Int) (i : Nat) : Prop := In c 0 1 ∧ Wd g ∧ (∀ j, i ≤ j → g j = w j) ∧ vW g i + vW l i = vW w i + c * 18446744073709551616 ^ i
theorem kv {w : Nat → Int} (l : Nat → Int) (hw : Wd w) : MinI w l w 0 0 := ⟨by decide, hw, fun _ _ => rfl, by simp [vW]⟩
theorem mh {w l g : Nat → Int} {c a b v e : Int} {i : Nat} (hl : Wd l) (h : MinI w l g c i) (hi : i < 9) (ha : Eqn a (g i)) (hb : Eqn b (l i)) (hv : Eqn v ((a - b - c) % 18446744073709551616)) (he : Eqn e (bif decide (a - b - c < 0) then 1 else 0)) : MinI w l (upd g i v) e (i + 1) := by
 unfold Eqn at *
 obtain ⟨h1, h2, h3, h4⟩ := h
 have g1 := h2 i hi
 have l1 := hl i hi
 subst ha hb
 have hk : v = g i - l i - c + e * 18446744073709551616 ∧ In e 0 1 ∧ In v 0 18446744073709551615 := by
   unfold In at *
   by_cases hd : g i - l i - c < 0
   · rw [decide_eq_true hd, cond_true] at he; omega
   · rw [decide_eq_false hd, cond_false] at he; omega
 obtain ⟨k1, k2, k3⟩ := hk
 refine ⟨k2, fun j hj => ?_, fun j hj => ?_, ?_⟩
 · by_cases e : j = i
   · subst e; rw [cO]; exact k3
   · rw [bH _ _ e]; exact h2 j hj
 · rw [bH _ _ (by omega)]; exact h3 j (by omega)
 · rw [vW, vW, vW, ft _ _ (Nat.le_refl _), cO, k1, ← h3 i (Nat.le_refl _), Int.pow_succ]
   generalize (18446744073709551616 : Int) ^ i = p at *
   generalize vW g i = x1 at *
   generalize vW l i = x2 at *
   generalize vW w i = x3 at *
   grind -lia -linarith
theorem oC {w l g : Nat → Int} {c : Int} {i : Nat} (hw : Wd w) (hl : Wd l) (h : MinI w l g c i) (hi : i = 9) : decide (c = 0) = decide (vW l 9 ≤ vW w 9) ∧ Wd g ∧ (vW l 9 ≤ vW w 9 → vW g 9 = vW w 9 - vW l 9) := by
 subst hi
 obtain ⟨h1, h2, _, h4⟩ := h
 have b1 := gI (f := g) (n := 9) h2
 have b2 := gI (f := l) (n := 9) hl
 have b3 := gI (f := w) (n := 9) hw
 have hp := powW 9
 unfold In at h1
 have hc : c = 0 ∨ c = 1 := by omega
 rcases hc with rfl | rfl
 · refine ⟨?_, h2, fun _ => by omega⟩
   rw [decide_eq_true rfl, decide_eq_true (by omega)]
 · refine ⟨?_, h2, fun h => by omega⟩
   rw [decide_eq_false (by decide), decide_eq_false (by omega)]
def ordW : Nat → Int := vecN [6346243789798364141, 1503914060200516822, 0, 1152921504606846976]
theorem gX (j : Nat) : In (ordW j) 0 18446744073709551615 := by
 match j with
 | 0 => decide
 | 1 => decide
 | 2 => decide
 | 3 => decide
 | j + 4 => show In 0 0 18446744073709551615; decide
theorem ns : vW ordW 4 = 7237005577332262213973186563042994240857116359379907606001950938285454250989 := by decide +kernel
def ShI (n : Nat) (g : Nat → Int) (i : Nat) : Prop := Wd g ∧ vW g 9 = vW ordW i * 2 ^ n ∧ (∀ j, n / 64 + i < j → g j = 0) ∧ In (g (n / 64 + i)) 0 (2 ^ (n % 64) - 1)
theorem mU (n : Nat) : ShI n (fun _ => 0) 0 := ⟨fun _ _ => (show In 0 0 18446744073709551615 by decide), by rw [lT]; simp [vW], fun _ _ => rfl, by
  have : (0 : Int) < 2 ^ (n % 64) := Int.pow_pos (by decide)
  show In 0 0 _
  unfold In; omega⟩
theorem jj {x : Int} {s : Nat} (hs : s < 64) (h0 : 0 ≤ x) (h1 : x ≤ 18446744073709551615) : x * 2 ^ s = x * 2 ^ s % 18446744073709551616 + 18446744073709551616 * (x / 2 ^ (64 - s)) ∧ (x * 2 ^ s % 18446744073709551616) % 2 ^ s = 0 ∧ 0 ≤ x / 2 ^ (64 - s) ∧ x / 2 ^ (64 - s) ≤ 2 ^ s - 1 := by
 have hp : (0 : Int) < 2 ^ s := Int.pow_pos (by decide)
 have hr : (0 : Int) < 2 ^ (64 - s) := Int.pow_pos (by decide)
 have e : (18446744073709551616 : Int) = 2 ^ (64 - s) * 2 ^ s := by rw [← Int.pow_add, show 64 - s + s = 64 by omega]; decide
 have d : x * 2 ^ s / 18446744073709551616 = x / 2 ^ (64 - s) := by rw [e, Int.mul_ediv_mul_of_pos_left _ _ hp]
 have hm := Int.emod_add_mul_ediv (x * 2 ^ s) 18446744073709551616
 rw [d] at hm
 refine ⟨by omega, ?_, Int.ediv_nonneg h0 (by omega), ?_⟩
 · have e2 : x * 2 ^ s % 18446744073709551616 = (x - 2 ^ (64 - s) * (x / 2 ^ (64 - s))) * 2 ^ s := by
     rw [Int.sub_mul, Int.mul_assoc, Int.mul_comm (x / 2 ^ (64 - s)), ← Int.mul_assoc, ← e]; omega
   rw [e2]; exact Int.mul_emod_left _ _
 · have : x / 2 ^ (64 - s) < 2 ^ s := Int.ediv_lt_of_lt_mul hr (by rw [Int.mul_comm, ← e]; omega)
   omega
theorem lZ {n i : Nat} {g : Nat → Int} {t : Int} (h : ShI n g i) (hn : n ≤ 264) (hi : i < 4) (ht : t = IntKind.u64.wrap (ordW i * 2 ^ (n % 64))) : bits .or .u64 (g (n / 64 + i)) t = g (n / 64 + i) + ordW i * 2 ^ (n % 64) % 18446744073709551616 ∧ g (n / 64 + i) + ordW i * 2 ^ (n % 64) % 18446744073709551616 ≤ 18446744073709551615 := by
 obtain ⟨h1, h2, h3, h4⟩ := h
 have hx := gX i
 obtain ⟨p1, p2, p3, p4⟩ := jj (s := n % 64) (Nat.mod_lt _ (by decide)) hx.1 hx.2
 have hg := h1 (n / 64 + i) (by omega)
 have hp : (0 : Int) < 2 ^ (n % 64) := Int.pow_pos (by decide)
 have ht2 : t = ordW i * 2 ^ (n % 64) % 18446744073709551616 := by rw [ht]; exact cH (k := .u64) rfl _
 unfold In at h4 hg
 have hb : (2 : Int) ^ (n % 64) * 2 ^ (64 - n % 64) = 18446744073709551616 := by rw [← Int.pow_add, show n % 64 + (64 - n % 64) = 64 by omega]; decide
 refine ⟨by rw [ht2]; exact gw (n % 64) h4.1 (by omega) (by omega) (by omega) p2 (by omega), ?_⟩
 have hr : (0 : Int) < 2 ^ (64 - n % 64) := Int.pow_pos (by decide)
 have hle : ordW i * 2 ^ (n % 64) % 18446744073709551616 ≤ 18446744073709551616 - 2 ^ (n % 64) := by
   obtain ⟨c, hc⟩ := Int.dvd_of_emod_eq_zero p2
   rw [hc]
   have hlt : 2 ^ (n % 64) * c < 2 ^ (n % 64) * 2 ^ (64 - n % 64) := by rw [hb, ← hc]; omega
   have : c < 2 ^ (64 - n % 64) := Int.lt_of_mul_lt_mul_left hlt (by omega)
   have : 2 ^ (n % 64) * (c + 1) ≤ 2 ^ (n % 64) * 2 ^ (64 - n % 64) := Int.mul_le_mul_of_nonneg_left (by omega) (by omega)
   rw [hb, Int.mul_add, Int.mul_one] at this
   omega
 omega
theorem n5 {n i : Nat} : ordW i * 2 ^ (n % 64) * 18446744073709551616 ^ (n / 64 + i) = ordW i * 18446744073709551616 ^ i * 2 ^ n := by
 have e : (2 : Int) ^ n = 2 ^ (n % 64) * 18446744073709551616 ^ (n / 64) := by
   rw [show (18446744073709551616 : Int) = 2 ^ 64 by decide, ← Int.pow_mul, ← Int.pow_add]; congr 1; omega
 rw [e, Int.pow_add]
 generalize (18446744073709551616 : Int) ^ (n / 64) = a
 generalize (18446744073709551616 : Int) ^ i = b
 generalize (2 : Int) ^ (n % 64) = c
 generalize ordW i = x
 grind -lia -linarith
theorem shI_one {n i : Nat} {g : Nat → Int} {t v : Int} (h : ShI n g i) (hn : n ≤ 264) (hi : i < 4) (ht : t = IntKind.u64.wrap (ordW i * 2 ^ (n % 64))) (hv : v = bits .or .u64 (g (n / 64 + i)) t) (hz : n % 64 = 0) : ShI n (upd g (n / 64 + i) v) (i + 1) := by
 obtain ⟨w1, w2⟩ := lZ h hn hi ht
 have hx := gX i
 have hval := n5 (n := n) (i := i)
 obtain ⟨h1, h2, h3, h4⟩ := h
 rw [hz] at w1 w2 h4 hval
 rw [Int.pow_zero, Int.mul_one] at w1 w2 hval
 have hg0 : g (n / 64 + i) = 0 := by unfold In at h4; omega
 have hm : ordW i % 18446744073709551616 = ordW i := Int.emod_eq_of_lt hx.1 (by have := hx.2; omega)
 rw [hg0, hm, Int.zero_add] at w1
 have hv2 : v = ordW i := by rw [hv, hg0, w1]
 refine ⟨fun j hj => ?_, ?_, fun j hj => ?_, ?_⟩
 · by_cases e : j = n / 64 + i
   · subst e; rw [cO, hv2]; exact hx
   · rw [bH _ _ e]; exact h1 j hj
 · rw [fC _ _ (by omega), h2, hg0, hv2, vW, Int.sub_zero, hval, Int.add_mul]
 · rw [bH _ _ (by omega)]; exact h3 j (by omega)
 · rw [bH _ _ (by omega), h3 (n / 64 + (i + 1)) (by omega), hz]; decide
theorem shI_two {n i : Nat} {g : Nat → Int} {t v u y : Int} (h : ShI n g i) (hn : n ≤ 264) (hi : i < 4) (ht : t = IntKind.u64.wrap (ordW i * 2 ^ (n % 64))) (hv : v = bits .or .u64 (g (n / 64 + i)) t) (hz : n % 64 ≠ 0) (hy : y = ordW i / 2 ^ (64 - n % 64)) (hu : u = bits .or .u64 (upd g (n / 64 + i) v (n / 64 + i + 1)) y) : ShI n (upd (upd g (n / 64 + i) v) (n / 64 + i + 1) u) (i + 1) := by
 obtain ⟨w1, w2⟩ := lZ h hn hi ht
 have hx := gX i
 have hval := n5 (n := n) (i := i)
 obtain ⟨h1, h2, h3, h4⟩ := h
 obtain ⟨p1, p2, p3, p4⟩ := jj (s := n % 64) (Nat.mod_lt _ (by decide)) hx.1 hx.2
 have hg1 : g (n / 64 + i + 1) = 0 := h3 _ (by omega)
 have hple : (2 : Int) ^ (n % 64) ≤ 18446744073709551616 := by
   have : ∀ m : Fin 64, (2 : Int) ^ m.val ≤ 18446744073709551616 := by decide +kernel
   exact this ⟨n % 64, Nat.mod_lt _ (by decide)⟩
 have hu2 : u = ordW i / 2 ^ (64 - n % 64) := by
   rw [hu, bH _ _ (by omega), hg1, hy]
   exact lO (k := .u64) (a := 0) (b := 18446744073709551615) rfl (by unfold In; omega) rfl rfl
 have hv2 : v = g (n / 64 + i) + ordW i * 2 ^ (n % 64) % 18446744073709551616 := by rw [hv, w1]
 have hv0 : 0 ≤ v := by
   have := (h1 (n / 64 + i) (by omega)).1
   omega
 refine ⟨fun j hj => ?_, ?_, fun j hj => ?_, ?_⟩
 · by_cases e : j = n / 64 + i + 1
   · subst e; rw [cO, hu2]; unfold In; omega
   · rw [bH _ _ e]
     by_cases e2 : j = n / 64 + i
     · subst e2; rw [cO]; unfold In; omega
     · rw [bH _ _ e2]; exact h1 j hj
 · rw [fC _ _ (by omega), fC _ _ (by omega), bH _ _ (by omega), hg1, h2, hv2, hu2]
   have e1 : vW ordW (i + 1) * 2 ^ n = vW ordW i * 2 ^ n + ordW i * 2 ^ (n % 64) * 18446744073709551616 ^ (n / 64 + i) := by rw [hval, vW, Int.add_mul]
   rw [e1]
   generalize ordW i * 2 ^ (n % 64) = m at p1 ⊢
   have e2 : (18446744073709551616 : Int) ^ (n / 64 + i + 1) = 18446744073709551616 ^ (n / 64 + i) * 18446744073709551616 := Int.pow_succ ..
   rw [e2]
   have e3 : m * 18446744073709551616 ^ (n / 64 + i) = (m % 18446744073709551616 + 18446744073709551616 * (ordW i / 2 ^ (64 - n % 64))) * 18446744073709551616 ^ (n / 64 + i) := by rw [← p1]
   rw [e3]
   clear e1 e2 e3 hval p1 p2 p3 p4 w1 w2 h2 hv2 hu2 hu hv ht
   generalize m % 18446744073709551616 = a
   generalize ordW i / 2 ^ (64 - n % 64) = b
   generalize (18446744073709551616 : Int) ^ (n / 64 + i) = p
   generalize vW ordW i * 2 ^ n = q
   generalize g (n / 64 + i) = r
   grind -lia -linarith
 · rw [bH _ _ (by omega), bH _ _ (by omega)]; exact h3 j (by omega)
 · rw [show n / 64 + (i + 1) = n / 64 + i + 1 by omega, cO, hu2]; exact ⟨p3, p4⟩
theorem shI_end {n i : Nat} {g : Nat → Int} (h : ShI n g i) (hi : i = 4) : Wd g ∧ vW g 9 = 7237005577332262213973186563042994240857116359379907606001950938285454250989 * 2 ^ n := by
 subst hi; exact ⟨h.1, by rw [h.2.1, ns]⟩
def RestI (f w : Nat → Int) (n : Int) : Prop := Wd w ∧ vW w 9 % 7237005577332262213973186563042994240857116359379907606001950938285454250989 = vW f 9 % 7237005577332262213973186563042994240857116359379907606001950938285454250989 ∧ vW w 9 < 7237005577332262213973186563042994240857116359379907606001950938285454250989 * 2 ^ (n + 1).toNat
theorem mZ {f w g l : Nat → Int} {n : Int} (h0 : 0 ≤ n) (h : RestI f w n) (hl : vW l 9 = 7237005577332262213973186563042994240857116359379907606001950938285454250989 * 2 ^ n.toNat) (hw : Wd g) (hg : vW g 9 = vW w 9 - vW l 9) : RestI f g (n - 1) := by
 obtain ⟨_, h2, h3⟩ := h
 rw [show (n + 1).toNat = n.toNat + 1 by omega, Int.pow_succ] at h3
 refine ⟨hw, ?_, ?_⟩
 · rw [hg, hl, ← h2, Int.sub_mul_emod_self_left]
 · rw [hg, hl, show (n - 1 + 1).toNat = n.toNat by omega]
   generalize (2 : Int) ^ n.toNat = p at *
   omega
theorem nd {f w l : Nat → Int} {n : Int} (h0 : 0 ≤ n) (h : RestI f w n) (hl : vW l 9 = 7237005577332262213973186563042994240857116359379907606001950938285454250989 * 2 ^ n.toNat) (hg : ¬ vW l 9 ≤ vW w 9) : RestI f w (n - 1) := by
 obtain ⟨h1, h2, h3⟩ := h
 exact ⟨h1, h2, by rw [show (n - 1 + 1).toNat = n.toNat by omega, ← hl]; omega⟩
theorem m6 {f w : Nat → Int} {n : Int} (h : RestI f w n) (h0 : n = -1) : Wd w ∧ vW w 9 = vW f 9 % 7237005577332262213973186563042994240857116359379907606001950938285454250989 := by
 subst h0
 obtain ⟨h1, h2, h3⟩ := h
 have hb := gI (f := w) (n := 9) h1
 have h3 : vW w 9 < 7237005577332262213973186563042994240857116359379907606001950938285454250989 := by simpa using h3
 exact ⟨h1, by omega⟩
def MaI (x y c0 w : Nat → Int) (i : Nat) : Prop := Wd w ∧ vW w 9 = vW c0 9 + vW x i * vW y 5
def MaJ (x y c0 w : Nat → Int) (i k : Nat) (c : Int) : Prop := Wd w ∧ In c 0 18446744073709551615 ∧ vW w 9 + c * 18446744073709551616 ^ (i + k) = vW c0 9 + vW x i * vW y 5 + x i * 18446744073709551616 ^ i * vW y k
theorem mj {x y c0 w : Nat → Int} {i : Nat} (h : MaI x y c0 w i) : MaJ x y c0 w i 0 0 := ⟨h.1, by decide, by rw [h.2]; simp [vW]⟩
theorem ma_sum {a b c d p lo1 v c2 : Int} (ha : In a 0 18446744073709551615) (hb : In b 0 18446744073709551615) (hc : In c 0 18446744073709551615) (hd : In d 0 18446744073709551615) (hp : p = a * b) (h1 : lo1 = (p % 18446744073709551616 + c + 0) % 18446744073709551616) (h2 : v = (d + lo1 + 0) % 18446744073709551616)
   (h3 : c2 = (p / 18446744073709551616 + (p % 18446744073709551616 + c + 0) / 18446744073709551616 + (d + lo1 + 0) / 18446744073709551616) % 18446744073709551616) : v + c2 * 18446744073709551616 = d + c + p ∧ In c2 0 18446744073709551615 ∧ In v 0 18446744073709551615 := by
 have hp0 : 0 ≤ p ∧ p ≤ 18446744073709551615 * 18446744073709551615 := by
   rw [hp]; exact ⟨Int.mul_nonneg ha.1 hb.1, (bZ ha hb (by decide) (by decide)).2⟩
 unfold In at *
 omega
theorem oG {x y c0 w : Nat → Int} {i k : Nat} {c v c2 : Int} (h : MaJ x y c0 w i k c) (hik : i + k < 9) (hs : v + c2 * 18446744073709551616 = w (i + k) + c + x i * y k) (hc : In c2 0 18446744073709551615) (hv : In v 0 18446744073709551615) : MaJ x y c0 (upd w (i + k) v) i (k + 1) c2 := by
 obtain ⟨h1, h2, h3⟩ := h
 refine ⟨fun j hj => ?_, hc, ?_⟩
 · by_cases e : j = i + k
   · subst e; rw [cO]; exact hv
   · rw [bH _ _ e]; exact h1 j hj
 · have ey : vW y (k + 1) = vW y k + y k * 18446744073709551616 ^ k := rfl
   have e : (18446744073709551616 : Int) ^ (i + k) = 18446744073709551616 ^ i * 18446744073709551616 ^ k := Int.pow_add ..
   have e5 : (18446744073709551616 : Int) ^ (i + k + 1) = 18446744073709551616 ^ i * 18446744073709551616 ^ k * 18446744073709551616 := by rw [Int.pow_succ, e]
   rw [fC _ _ hik, ey, show i + (k + 1) = i + k + 1 by omega, e5, e]
   rw [e] at h3
   clear e e5 ey h1 hc
   generalize (18446744073709551616 : Int) ^ i = p at *
   generalize (18446744073709551616 : Int) ^ k = q at *
   generalize vW w 9 = s at *
   generalize vW c0 9 + vW x i * vW y 5 = r at *
   generalize vW y k = u at *
   generalize w (i + k) = d at *
   generalize x i = a at *
   generalize y k = b at *
   have hv : v = d + c + a * b - c2 * 18446744073709551616 := by omega
   subst hv
   grind -lia -linarith
def MaT (x y c0 w : Nat → Int) (i k : Nat) (c : Int) : Prop := Wd w ∧ In c 0 18446744073709551615 ∧ vW w 9 + c * 18446744073709551616 ^ k = vW c0 9 + vW x (i + 1) * vW y 5
theorem mi {x y c0 w : Nat → Int} {i k : Nat} {c : Int} (h : MaJ x y c0 w i k c) (hk : k = 5) : MaT x y c0 w i (i + 5) c := by
 subst hk
 obtain ⟨h1, h2, h3⟩ := h
 have ex : vW x (i + 1) = vW x i + x i * 18446744073709551616 ^ i := rfl
 exact ⟨h1, h2, by rw [h3, ex, Int.add_mul]; omega⟩
theorem oF {x y c0 w : Nat → Int} {i k : Nat} {c v c2 : Int} (h : MaT x y c0 w i k c) (hk : k < 9) (hv : v = (w k + c + 0) % 18446744073709551616) (hc : c2 = (w k + c + 0) / 18446744073709551616) : MaT x y c0 (upd w k v) i (k + 1) c2 := by
 obtain ⟨h1, h2, h3⟩ := h
 have hw := h1 k hk
 unfold In at h2 hw
 refine ⟨fun j hj => ?_, by unfold In; omega, ?_⟩
 · by_cases e : j = k
   · subst e; rw [cO]; unfold In; omega
   · rw [bH _ _ e]; exact h1 j hj
 · rw [fC _ _ hk, ← h3, Int.pow_succ]
   have e : v = w k + c - c2 * 18446744073709551616 := by omega
   rw [e]
   generalize (18446744073709551616 : Int) ^ k = p
   generalize vW w 9 = s
   grind -lia -linarith
theorem maT_end {x y c0 w : Nat → Int} {i k : Nat} {c : Int} (h : MaT x y c0 w i k c) (hk : k ≤ 9) (he : c = 0 ∨ k = 9) (hb : vW c0 9 + vW x (i + 1) * vW y 5 < 18446744073709551616 ^ 9) : MaI x y c0 w (i + 1) := by
 obtain ⟨h1, h2, h3⟩ := h
 have hw := gI (f := w) (n := 9) h1
 have hc : c = 0 := by
   rcases he with h | h
   · exact h
   · subst h
     have hp := powW 9
     unfold In at h2
     rcases Int.lt_or_le 0 c with h4 | h4
     · have : 1 * 18446744073709551616 ^ 9 ≤ c * 18446744073709551616 ^ 9 := Int.mul_le_mul_of_nonneg_right (by omega) (by omega)
       generalize c * 18446744073709551616 ^ 9 = q at *
       omega
     · omega
 subst hc
 exact ⟨h1, by rw [← h3]; simp⟩
theorem nK {f : Nat → Int} (h : ∀ j, 32 ≤ 8 * j → f j = 0) : vW f 5 = vW f 9 ∧ vW f 4 = vW f 9 := by
 have e : ∀ n, vW f (4 + n) = vW f 4 := by
   intro n
   induction n with
   | zero => rfl
   | succ n ih => rw [← Nat.add_assoc, vW, ih, h (4 + n) (by omega)]; simp
 exact ⟨by rw [show 9 = 4 + 5 from rfl, e 5]; exact e 1, (e 5).symm⟩
end Go.Fld
namespace Go.Proofs.YtllmbkmghmmhfaaDoor.W
open Go Go.Eng Go.Byt
open Go.Fld Go.Ed
theorem mP (x y c : Int) (hx : In x 0 18446744073709551615) (hy : In y 0 18446744073709551615) (hc : In c 0 1) (w : World) :
   (callFunc 61 #[.int .u64 x, .int .u64 y, .int .u64 c]).run Tryd.prog w = .ok (.value (.tuple #[.int .u64 ((x - y - c) % 18446744073709551616), .int .u64 (bif decide (x - y - c < 0) then 1 else 0)])) w := by
 unfold In at hx hy hc
 obtain ⟨a, rfl⟩ := Int.eq_ofNat_of_zero_le hx.1
 obtain ⟨b, rfl⟩ := Int.eq_ofNat_of_zero_le hy.1
 obtain ⟨e, rfl⟩ := Int.eq_ofNat_of_zero_le hc.1
 rw [run_callFunc_extern Tryd.func61 (by kernel_rfl) (by kernel_rfl) (by kernel_rfl) (e := Go.Proofs.sub64Entry) (by kernel_rfl), Go.Proofs.run_sub64 a b e (by omega)]
 simp only [Result.andThen]
 have e1 : (((a + 18446744073709551616 - b - e) % 18446744073709551616 : Nat) : Int) = ((a : Int) - b - e) % 18446744073709551616 := by omega
 have e2 : (((if a < b + e then 1 else 0) : Nat) : Int) = bif decide ((a : Int) - b - e < 0) then 1 else 0 := by
   by_cases h : a < b + e
   · rw [if_pos h, decide_eq_true (by omega)]; rfl
   · rw [if_neg h, decide_eq_false (by omega)]; rfl
 rw [e1, e2]
theorem i6 (v : Value) (xs : List UInt8) (w : World) (hv : RdB w v xs) (hx : xs.length ≤ 64) : Rets Tryd.prog 29 [v] w (fun v w' => ∃ g, v = .agg (iv .u64 9 g).toArray ∧ (vW g 9 = leI xs ∧ Wd g ∧ ∀ j, xs.length ≤ 8 * j → g j = 0) ∧ Keep [] w w') := by
 have hB : Keep [] w w := Keep.refl _ _
 refine a7 Tryd.func29 rfl (by decide) Tryd.ntmps29 rfl (fun fin _ hfin => aS (aR (a9 (ab dD) rfl ?_)))
 rintro _ w1 ⟨b1, rfl, eb1, hb1, k1, z1⟩
 have ge_b1 : w.heap.size ≤ b1 := by have := hB.size; omega
 replace hB := hB.trans k1
 clear eb1 z1
 replace hb1 : Bk w1 b1 60 (iv .u64 9 (fun _ => 0)) := by rw [iv, cG]; exact hb1
 refine aT (aS (aR (a9 (ab dD) rfl ?_)))
 rintro _ w2 ⟨b2, rfl, eb2, hb2, k2, z2⟩
 have ge_b2 : w.heap.size ≤ b2 := by have := hB.size; omega
 have ne_b1_b2 : b1 ≠ b2 := by have := hb1.lt; omega
 obtain ⟨hB, hb1⟩ := bT k2 hB hb1
 clear eb2 z2
 replace hb2 : Bk w2 b2 60 (iv .u64 9 (fun _ => 0)) := by rw [iv, cG]; exact hb2
 refine aT (aS (aS (aR (ogm rfl rfl (aU (bp aB rfl (by first | assumption | exact Own.rd ‹_› | exact Rd.pK ‹_› hB | exact Own.rd (Own.pK ‹_› hB))) rfl (ogm rfl rfl (aT (a5 (bi (Γ := Nat × (Nat → Int)) (fun ⟨i, g⟩ => [(2, .pointer (some ⟨b1, 0, none⟩)), (3, .pointer (some ⟨b2, 0, none⟩)), (6, v), (7, .int .i64 (xs.length : Int)), (8, .int .i64 (i : Int))]) (fun ⟨i, g⟩ W => i ≤ xs.length ∧ GetI xs g i ∧ Bk W b1 60 (iv .u64 9 (fun _ => 0)) ∧ Bk W b2 60 (iv .u64 9 g) ∧ Keep [] w W) (fun ⟨i, g⟩ => xs.length - i) ⟨0, _⟩ ⟨rfl, rfl, rfl, rfl, rfl, trivial⟩ (⟨by omega, hQ xs, hb1, hb2, hB⟩) ?_)))))))))
 rintro ⟨i, g⟩ w3 ⟨hi, hI, hbx2, hbx3, hB⟩
 refine aW [(2, .pointer (some ⟨b1, 0, none⟩)), (3, .pointer (some ⟨b2, 0, none⟩)), (6, v), (7, .int .i64 (xs.length : Int)), (8, .int .i64 (i : Int))] ⟨rfl, rfl, rfl, rfl, rfl, trivial⟩ (aS (aR (aU (bW rfl rfl) rfl (aT (aS (bo rfl (fun hc1 => ?_) (fun hc1 => ?_)))))))
 ·
  refine a8 (aS (a5 (aS (aR (ogm rfl rfl (aU (dV aB cZ rfl (by first | assumption | exact Own.rd ‹_› | exact Rd.pK ‹_› hB | exact Own.rd (Own.pK ‹_› hB)) rfl (by omega)) rfl (ag (e' := gb xs (i : Int)) (lo := 0) (hi := 255) (d7 j4 rfl (by first | assumption | exact Own.rd ‹_› | exact Rd.pK ‹_› hB | exact Own.rd (Own.pK ‹_› hB)) (by omega)) (rfl) ((cc xs _)) rfl (fun z3 h1 r1 => oga rfl rfl (oga rfl rfl (aT (bf 11 mixed (by decide +kernel) (fun w4 k3 => ?_))))))))))))
  obtain ⟨hB, hbx2, hbx3⟩ := cX k3 hB hbx2 hbx3
  refine ac (ax rfl) rfl (ac (eg rfl rfl (by omega)) rfl (ac (ap (i / 8) aH aY rfl rfl (by omega) (by omega)) rfl (bk (e' := g (i / 8)) (lo := 0) (hi := 18446744073709551615) (aZ ai rfl hbx3 (bO (by omega))) (rfl) ((hI.2.1 _ (by omega))) rfl (fun z4 h2 r2 => ac (ax rfl) rfl (bk (e' := z3) (lo := 0) (hi := 255) (gC (by rw [aK]; rfl) aJ rfl) (am r1 rfl) (r1) rfl (fun z5 h3 r3 => ac (ax rfl) rfl (ac (e9 rfl rfl (by omega)) rfl (ac (gN rfl rfl (by omega)) rfl (ac (ip rfl rfl (by constructor <;> (try simp only [IntKind.bits]) <;> omega)) rfl (ac (du rfl rfl) rfl (cB ?_)))))))))))
  refine aU (ap (i / 8) aH aY rfl rfl (by omega) (by omega)) rfl (a6 (eV (v := (bits .or .u64 z4 (IntKind.u64.wrap (z5 * 2 ^ ((8 * ((i : Int) % 8)) : Int).toNat)))) aY rfl rfl hbx3 (by omega)) ?_)
  rintro _ w5 ⟨hb3, k4, z6⟩
  replace hbx2 := hbx2.keep k4 (nm ne_b1_b2)
  replace hB := hB.new k4 (nw ge_b2)
  clear z6
  refine aT (aW [(2, _), (3, _), (6, _), (7, _), (8, _)] ⟨rfl, rfl, rfl, rfl, rfl, trivial⟩ (bg (aR (aU (cI rfl rfl (by omega)) rfl (ogm rfl rfl (aT (cA (Γ := Nat × (Nat → Int)) ⟨i + 1, _⟩ ⟨rfl, rfl, rfl, rfl, rfl, trivial⟩ (by (try dsimp only); omega) (⟨by omega, kL hI (by omega) (by omega) h2 (by have a := h1; have b := h3; unfold Eqn at *; rw [b, a]) rfl rfl, hbx2, hb3, hB⟩))))))))
 ·
  refine bE rfl (aS (aR (aU (aX (cs' := iv .u64 9 g) iS dD rfl hbx3 rfl rfl) rfl (a6 (dv (vs := iv .u64 9 g) dD rfl rfl rfl ad hbx2 rfl) ?_))))
  rintro _ w6 ⟨hb4, k5, z7⟩
  replace hB := hB.new k5 (nw ge_b1)
  clear z7
  refine aT (bP hfin Tryd.results29 rfl (ae iS dD hb4 rfl)  ?_)
  exact ⟨g, rfl, (kM hI (by omega)), hB⟩
theorem fU (v : Value) (xs : List UInt8) (w : World) (hv : RdB w v xs) (hx : xs.length = 32) : Rets Tryd.prog 29 [v] w (fun v w' => ∃ g, v = .agg (iv .u64 9 g).toArray ∧ (vW g 9 = leI xs ∧ Wd g ∧ ∀ j, 32 ≤ 8 * j → g j = 0) ∧ Keep [] w w') := (i6 v xs w hv (by omega)).mono fun _ _ ⟨g, h, h2, k⟩ => ⟨g, h, hx ▸ h2, k⟩
theorem jc (f : Nat → Int) (hf : Wd f) (w : World) : Rets Tryd.prog 33 [.agg (iv .u64 9 f).toArray] w (fun v w' => OwnB w' w.heap.size v (leB (vW f 9) 32) ∧ Keep [] w w') := by
 have hB : Keep [] w w := Keep.refl _ _
 refine a7 Tryd.func33 rfl (by decide) Tryd.ntmps33 rfl (fun fin _ hfin => aS (aR (a9 (bc (cs := iv .u64 9 f) rfl rfl) rfl ?_)))
 rintro _ w1 ⟨b1, rfl, eb1, hb1, k1, z1⟩
 replace hB := hB.trans k1
 clear eb1 z1
 refine oga rfl rfl (aT (aS (aR (a9 (mu aB cZ rfl rfl (by omega) (by constructor <;> omega)) rfl ?_))))
 rintro q w5 ⟨o5, _, _, k5, _⟩
 have hsep : ∀ x, x ∈ vblk q → x ≠ b1 := fun x hx => by have h1 := (o5.blk x hx).1; have h2 := hb1.lt; omega
 replace o5 : Own w5 w.heap.size 5 1 q 32 (iv .u8 32 (fun _ => 0)) := by rw [iv, cG]; exact o5.lo hB.size
 obtain ⟨hB, hb1⟩ := bT k5 hB hb1
 refine oga rfl rfl (aT (aS (aS (aR (ogm rfl rfl (aU (bp aB rfl (by first | assumption | exact Own.rd ‹_› | exact Rd.pK ‹_› hB | exact Own.rd (Own.pK ‹_› hB))) rfl (ogm rfl rfl (aT (a5 (bi (Γ := Nat × (Nat → Int)) (fun ⟨i, h⟩ => [(1, .pointer (some ⟨b1, 0, none⟩)), (3, q), (7, .int .i64 32), (8, .int .i64 (i : Int))]) (fun ⟨i, h⟩ W => i ≤ 32 ∧ Part (byteN (vW f 9)) (fun _ => 0) h i ∧ Own W w.heap.size 5 1 q 32 (iv .u8 32 h) ∧ Bk W b1 60 (iv .u64 9 f) ∧ Keep [] w W) (fun ⟨i, h⟩ => 32 - i) ⟨0, _⟩ ⟨rfl, rfl, rfl, rfl, trivial⟩ (⟨by decide, kq _ _, o5, hb1, hB⟩) ?_))))))))))
 rintro ⟨i, h⟩ w3 ⟨hi, hP, ox, hbx1, hB⟩
 refine aW [(1, .pointer (some ⟨b1, 0, none⟩)), (3, q), (7, .int .i64 32), (8, .int .i64 (i : Int))] ⟨rfl, rfl, rfl, rfl, trivial⟩ (aS (aR (aU (bW rfl rfl) rfl (aT (aS (bo rfl (fun hc1 => ?_) (fun hc1 => ?_)))))))
 ·
  refine a8 (aS (a5 (aS (aR (ogm rfl rfl (oga rfl rfl (aT (aR (ogm rfl rfl (ogm rfl rfl (ogm rfl rfl (aU (eg rfl rfl (by omega)) rfl (aU (ap (i / 8) aH aY rfl rfl (by omega) (by omega)) rfl (ag (e' := f (i / 8)) (lo := 0) (hi := 18446744073709551615) (aZ ai rfl hbx1 (bO (by omega))) (rfl) ((hf _ (by omega))) rfl (fun z3 h1 r1 => ogm rfl rfl (aU (e9 rfl rfl (by omega)) rfl (aU (gN rfl rfl (by omega)) rfl (aU (fa rfl rfl (by constructor <;> (try simp only [IntKind.bits]) <;> omega)) rfl (ag (e' := (z3 / 2 ^ ((8 * ((i : Int) % 8)) : Int).toNat) % 256) (lo := 0) (hi := 255) (gC (by rw [aJ]; rfl) aK rfl) (cH rfl _) (In.wk (au _ (by decide)) rfl) rfl (fun z4 h2 r2 => aU (dV aB cZ rfl (by first | assumption | exact Own.rd ‹_› | exact Rd.pK ‹_› hB | exact Own.rd (Own.pK ‹_› hB)) rfl (by omega)) rfl ?_))))))))))))))))))))
  refine a6 (iO (u := .int .u8 z4) cZ rfl rfl rfl ox (by rw [bh]; omega)) ?_
  rintro _ w9 ⟨ox2, k9, z9⟩
  rw [show (i : Int).toNat * 1 = i by omega, jR] at ox2
  replace hB := hB.new k9 (fun x hx => .inl (ox.blk x hx).1)
  replace hbx1 := hbx1.keep k9 (fun hm => hsep _ hm rfl)
  refine aT (aW [(1, _), (3, _), (7, _), (8, _)] ⟨rfl, rfl, rfl, rfl, trivial⟩ (bg (aR (aU (cI rfl rfl (by omega)) rfl (ogm rfl rfl (aT (cA (Γ := Nat × (Nat → Int)) ⟨i + 1, _⟩ ⟨rfl, rfl, rfl, rfl, trivial⟩ (by (try dsimp only); omega) (⟨by omega, md hP (by have a := h1; have b := h2; unfold Eqn at *; rw [b, a, mF hf (by omega)]; rfl), ox2, hbx1, hB⟩))))))))
 ·
  refine bE rfl (aS (aR (ogm rfl rfl (oga rfl rfl (aT (bD hfin Tryd.results33 rfl ?_))))))
  have hc : iv .u8 32 h = bv (leB (vW f 9) 32) := by
   have e := lL 32 (vW f 9) 0
   rw [Int.pow_zero, Int.ediv_one] at e
   rw [e]; exact eL (fun j _ hj => hP.1 j (by omega))
  rw [hc] at ox
  exact ⟨by unfold OwnB; rw [dM]; exact ox, hB⟩
theorem gj (a l : Nat → Int) (ha : Wd a) (hl : Wd l) (w : World) : Rets Tryd.prog 44 [.agg (iv .u64 9 a).toArray, .agg (iv .u64 9 l).toArray] w (fun v w' => ∃ g, v = .tuple #[.agg (iv .u64 9 g).toArray, .bool (decide (vW l 9 ≤ vW a 9))] ∧ (Wd g ∧ (vW l 9 ≤ vW a 9 → vW g 9 = vW a 9 - vW l 9)) ∧ Keep [] w w') := by
  have hB : Keep [] w w := Keep.refl _ _
  refine a7 Tryd.func44 rfl (by decide) Tryd.ntmps44 rfl (fun fin _ hfin => aS (aR (a9 (bc (cs := iv .u64 9 a) rfl rfl) rfl ?_)))
  rintro _ w1 ⟨b1, rfl, eb1, hb1, k1, z1⟩
  have ge_b1 : w.heap.size ≤ b1 := by have := hB.size; omega
  replace hB := hB.trans k1
  clear eb1 z1
  refine a9 (bc (cs := iv .u64 9 l) rfl rfl) rfl ?_
  rintro _ w2 ⟨b2, rfl, eb2, hb2, k2, z2⟩
  have ne_b1_b2 : b1 ≠ b2 := by have := hb1.lt; omega
  obtain ⟨hB, hb1⟩ := bT k2 hB hb1
  clear eb2 z2
  refine a9 (ab dD) rfl ?_
  rintro _ w3 ⟨b3, rfl, eb3, hb3, k3, z3⟩
  have ge_b3 : w.heap.size ≤ b3 := by have := hB.size; omega
  have ne_b1_b3 : b1 ≠ b3 := by have := hb1.lt; omega
  obtain ⟨hB, hb1, hb2⟩ := cX k3 hB hb1 hb2
  clear eb3 z3
  replace hb3 : Bk w3 b3 60 (iv .u64 9 (fun _ => 0)) := by rw [iv, cG]; exact hb3
  refine oga rfl rfl (aT (aS (aR (oga rfl rfl (aT (aS (aS (aR ?_))))))))
  refine ogm rfl rfl (aT (a5 (bi (Γ := Nat × (Nat → Int) × Int) (fun ⟨i, g, c⟩ => [(2, .pointer (some ⟨b1, 0, none⟩)), (3, .pointer (some ⟨b2, 0, none⟩)), (4, .pointer (some ⟨b3, 0, none⟩)), (6, .int .u64 c), (8, .int .i64 (i : Int))]) (fun ⟨i, g, c⟩ W => i ≤ 9 ∧ MinI a l g c i ∧ Bk W b1 60 (iv .u64 9 g) ∧ Bk W b2 60 (iv .u64 9 l) ∧ Bk W b3 60 (iv .u64 9 (fun _ => 0)) ∧ Keep [] w W) (fun ⟨i, g, c⟩ => 9 - i) ⟨0, a, 0⟩ ⟨rfl, rfl, rfl, rfl, rfl, trivial⟩ (⟨by decide, kv l ha, hb1, hb2, hb3, hB⟩) ?_)))
  rintro ⟨i, g, c⟩ w4 ⟨hi, hI, hbx2, hbx3, hbx4, hB⟩
  refine aW [(2, .pointer (some ⟨b1, 0, none⟩)), (3, .pointer (some ⟨b2, 0, none⟩)), (4, .pointer (some ⟨b3, 0, none⟩)), (6, .int .u64 c), (8, .int .i64 (i : Int))] ⟨rfl, rfl, rfl, rfl, rfl, trivial⟩ (aS (aR (aU (bW rfl rfl) rfl (aT (aS (bo rfl (fun hc1 => ?_) (fun hc1 => ?_)))))))
  · -- yes
    refine a8 (aS (a5 (aS (aR (ogm rfl rfl (oga rfl rfl (aT (ge 13 [0, 1, 2, 3, 4, 5, 6, 7, 8, 9, 10, 11, 12] [] [] [] (x := 11) rfl mixed [(7, _), (2, _), (3, _), (6, _), (4, _), (8, _)] ⟨rfl, rfl, rfl, rfl, rfl, rfl, trivial⟩ (by decide +kernel) (by decide) (by decide) ?_ (fun x hx => by cases hx) rfl (fun w5 k4 => ?_)))))))))
    · intro q hq; cases hq
    obtain ⟨hB, hbx2, hbx3, hbx4⟩ := cy k4 hB hbx2 hbx3 hbx4
    refine cK 7 rfl rfl rfl rfl rfl (cK 7 rfl rfl rfl rfl rfl (dK 2 13 rfl rfl rfl rfl rfl (fun W' kk => ap (i) aH aY rfl rfl (by omega) (by omega)) (lb (e' := g i) (lo := 0) (hi := 18446744073709551615) [(14, _)] rfl rfl ⟨rfl, trivial⟩ rfl (fun W' kk => aZ ai rfl (Bk.pK hbx2 kk) (bO (by omega))) (rfl) ((hI.2.1 _ (by omega))) (fun z4 h1 r1 => cK 7 rfl rfl rfl rfl rfl (dK 3 16 rfl rfl rfl rfl rfl (fun W' kk => ap (i) aH aY rfl rfl (by omega) (by omega)) (lb (e' := l i) (lo := 0) (hi := 18446744073709551615) [(17, _)] rfl rfl ⟨rfl, trivial⟩ rfl (fun W' kk => aZ ai rfl (Bk.pK hbx3 kk) (bO (by omega))) (rfl) ((hl _ (by omega))) (fun z5 h2 r2 => cK 6 rfl rfl rfl rfl rfl (iZ [(15, _), (18, _), (19, _)] rfl rfl ⟨rfl, rfl, rfl, trivial⟩ rfl (fun W' kk => d5 (vs := [_, _, _]) rfl (mP _ _ _ (In.wk r1 rfl) (In.wk r2 rfl) (In.wk hI.1 rfl))) ?_))))))))
    refine cK 20 rfl rfl rfl rfl rfl (lb (e' := ((z4 - z5 - c) % 18446744073709551616)) (lo := 0) (hi := 18446744073709551615) [(11, _)] rfl rfl ⟨rfl, trivial⟩ rfl (fun W' kk => ar (vs := [_, _]) rfl rfl) (rfl) (In.wk (au _ (by decide)) rfl) (fun z6 h3 r3 => lb (e' := (bif decide ((z4 - z5 - c) < 0) then 1 else 0)) (lo := 0) (hi := 1) [(11, _)] rfl rfl ⟨rfl, trivial⟩ rfl (fun W' kk => ar (vs := [_, _]) rfl rfl) (rfl) (in_bif _) (fun z7 h4 r4 => dK 2 12 rfl rfl rfl rfl rfl (fun W' kk => ap (i) aH aY rfl rfl (by omega) (by omega)) (jI (fun w6 k5 => ?_)))))
    obtain ⟨hB, hbx2, hbx3, hbx4⟩ := cy k5 hB hbx2 hbx3 hbx4
    refine iJ (tailx [(21, _), (23, _)] rfl ⟨rfl, rfl, trivial⟩ rfl (eV (v := z6) aY rfl rfl hbx2 (by omega)) ?_)
    rintro _ w7 ⟨hb4, k6, z8⟩
    replace hbx3 := hbx3.keep k6 (nm (Ne.symm ne_b1_b2))
    replace hbx4 := hbx4.keep k6 (nm (Ne.symm ne_b1_b3))
    replace hB := hB.new k6 (nw ge_b1)
    clear z8
    refine oga rfl rfl (aT (aW [(2, _), (3, _), (6, _), (4, _), (8, _)] ⟨rfl, rfl, rfl, rfl, rfl, trivial⟩ (bg (aR (aU (cI rfl rfl (by omega)) rfl (ogm rfl rfl (aT (cA (Γ := Nat × (Nat → Int) × Int) ⟨i + 1, _, _⟩ ⟨rfl, rfl, rfl, rfl, rfl, trivial⟩ (by (try dsimp only); omega) (⟨by omega, mh hl hI (by omega) h1 h2 h3 h4, hb4, hbx3, hbx4, hB⟩)))))))))
  · -- no
    refine bE rfl (aS (aR (aU (aX (cs' := iv .u64 9 g) iS dD rfl hbx2 rfl rfl) rfl (ogm rfl rfl (aU (gR rfl rfl) rfl (a6 (dv (vs := iv .u64 9 g) dD rfl rfl rfl ad hbx4 rfl) ?_))))))
    rintro _ w8 ⟨hb5, k7, z9⟩
    replace hB := hB.new k7 (nw ge_b3)
    clear z9
    refine oga rfl rfl (aT (cR hfin Tryd.results44 rfl (ae iS dD hb5 rfl) rfl ?_))
    obtain ⟨e1, e2, e3⟩ := oC ha hl hI (by omega)
    exact ⟨g, by rw [e1], ⟨e2, e3⟩, hB⟩
theorem kc (m : Nat) (hm : m ≤ 264) (w : World) : Rets Tryd.prog 45 [.int .i64 (m : Int)] w (fun v w' => ∃ g, v = .agg (iv .u64 9 g).toArray ∧ (Wd g ∧ vW g 9 = 7237005577332262213973186563042994240857116359379907606001950938285454250989 * 2 ^ m) ∧ Keep [] w w') := by
 have hB : Keep [] w w := Keep.refl _ _
 refine a7 Tryd.func45 rfl (by decide) Tryd.ntmps45 rfl (fun fin _ hfin => aS (aR (a9 (ab dD) rfl ?_)))
 rintro _ w1 ⟨b1, rfl, eb1, hb1, k1, z1⟩
 have ge_b1 : w.heap.size ≤ b1 := by have := hB.size; omega
 replace hB := hB.trans k1
 clear eb1 z1
 replace hb1 : Bk w1 b1 60 (iv .u64 9 (fun _ => 0)) := by rw [iv, cG]; exact hb1
 refine aT (aS (aR (aU (cx (idx := [0, 1, 2, 3]) (xs := [.const (.int .u64 (6346243789798364141)), .const (.int .u64 (1503914060200516822)), .const (.int .u64 (0)), .const (.int .u64 (1152921504606846976))]) (vs := [_, _, _, _]) (css := [[.int .u64 6346243789798364141], [.int .u64 1503914060200516822], [.int .u64 0], [.int .u64 1152921504606846976]]) (out := [.int .u64 6346243789798364141, .int .u64 1503914060200516822, .int .u64 0, .int .u64 1152921504606846976]) aG aY gd (cW 4 1) rfl rfl ⟨rfl, rfl, rfl, rfl, trivial⟩ rfl rfl) rfl (a9 (ab gd) rfl ?_))))
 rintro _ w2 ⟨b2, rfl, eb2, hb2, k2, z2⟩
 have ge_b2 : w.heap.size ≤ b2 := by have := hB.size; omega
 have ne_b1_b2 : b1 ≠ b2 := by have := hb1.lt; omega
 obtain ⟨hB, hb1⟩ := bT k2 hB hb1
 clear eb2 z2
 refine a6 (ak gd rfl rfl rfl (by simp only [List.forall_mem_cons]; refine ⟨rfl, rfl, rfl, rfl, fun v hv => by cases hv⟩) hb2 rfl) ?_
 rintro _ w3 ⟨hb3, k3, z3⟩
 replace hb1 := hb1.keep k3 (nm ne_b1_b2)
 replace hB := hB.new k3 (nw ge_b2)
 clear z3
 replace hb3 : Bk w3 b2 _ [.int .u64 6346243789798364141, .int .u64 1503914060200516822, .int .u64 0, .int .u64 1152921504606846976] := hb3
 refine aT (aS (aR (a9 (ab dD) rfl ?_)))
 rintro _ w4 ⟨b3, rfl, eb3, hb4, k4, z4⟩
 have ge_b3 : w.heap.size ≤ b3 := by have := hB.size; omega
 have ne_b1_b3 : b1 ≠ b3 := by have := hb1.lt; omega
 obtain ⟨hB, hb1, hb3⟩ := cX k4 hB hb1 hb3
 clear eb3 z4
 replace hb4 : Bk w4 b3 60 (iv .u64 9 (fun _ => 0)) := by rw [iv, cG]; exact hb4
 refine aT (aS (aS (aR (aU (aX (cs' := [_, _, _, _]) ag91 gd rfl hb3 rfl rfl) rfl (ogm rfl rfl (aT (a5 (bi (Γ := Nat × (Nat → Int)) (fun ⟨i, g⟩ => [(2, .pointer (some ⟨b1, 0, none⟩)), (4, .pointer (some ⟨b3, 0, none⟩)), (0, .int .i64 (m : Int)), (8, .agg (iv .u64 4 ordW).toArray), (9, .int .i64 (i : Int))]) (fun ⟨i, g⟩ W => i ≤ 4 ∧ ShI m g i ∧ Bk W b1 60 (iv .u64 9 (fun _ => 0)) ∧ Bk W b3 60 (iv .u64 9 g) ∧ Keep [] w W) (fun ⟨i, g⟩ => 4 - i) ⟨0, _⟩ ⟨rfl, rfl, rfl, rfl, rfl, trivial⟩ (⟨by decide, mU m, hb1, hb4, hB⟩) ?_))))))))
 rintro ⟨i, g⟩ w5 ⟨hi, hI, hbx2, hbx4, hB⟩
 refine aW [(2, .pointer (some ⟨b1, 0, none⟩)), (4, .pointer (some ⟨b3, 0, none⟩)), (0, .int .i64 (m : Int)), (8, .agg (iv .u64 4 ordW).toArray), (9, .int .i64 (i : Int))] ⟨rfl, rfl, rfl, rfl, rfl, trivial⟩ (aS (aR (aU (bW rfl rfl) rfl (aT (aS (bo rfl (fun hc1 => ?_) (fun hc1 => ?_)))))))
 ·
  refine a8 (aS (a5 (aS (aR (ogm rfl rfl (ag (e' := ordW i) (lo := 0) (hi := 18446744073709551615) (ez aG aY ai rfl rfl (by omega) (bO (by omega))) (rfl) ((gX _)) rfl (fun z5 h1 r1 => oga rfl rfl (oga rfl rfl (aT (aS (bf 11 mixed (by decide +kernel) (fun w6 k5 => ?_))))))))))))
  obtain ⟨hB, hbx2, hbx4⟩ := cX k5 hB hbx2 hbx4
  refine ac (ax rfl) rfl (ac (ax rfl) rfl (ac (eg rfl rfl (by omega)) rfl (ac (cI rfl rfl (by omega)) rfl (ac (ap (m / 64 + i) aH aY rfl rfl (by omega) (by omega)) rfl (bk (e' := g (m / 64 + i)) (lo := 0) (hi := 18446744073709551615) (aZ ai rfl hbx4 (bO (by omega))) (rfl) ((hI.1 _ (by omega))) rfl (fun z6 h2 r2 => ac (ax rfl) rfl (ac (ax rfl) rfl (ac (e9 rfl rfl (by omega)) rfl (ac (ip rfl rfl (by constructor <;> (try simp only [IntKind.bits]) <;> omega)) rfl (ac (du rfl rfl) rfl (cB (aU (ap (m / 64 + i) aH aY rfl rfl (by omega) (by omega)) rfl ?_))))))))))))
  refine a6 (eV (v := (bits .or .u64 z6 (IntKind.u64.wrap (z5 * 2 ^ (((m : Int) % 64) : Int).toNat)))) aY rfl rfl hbx4 (by omega)) ?_
  rintro _ w7 ⟨hb5, k6, z7⟩
  replace hbx2 := hbx2.keep k6 (nm ne_b1_b3)
  replace hB := hB.new k6 (nw ge_b3)
  clear z7
  refine aT (aW [(2, _), (4, _), (0, _), (8, _), (9, _), (5, _), (6, _)] ⟨rfl, rfl, rfl, rfl, rfl, rfl, rfl, trivial⟩ (aS (aR (ogm rfl rfl (aU (e9 rfl rfl (by omega)) rfl (aU (lA rfl rfl) rfl (aT (bo rfl (fun hc2 => ?_) (fun hc2 => ?_)))))))))
  ·
   refine bf 13 mixed (by decide +kernel) (fun w8 k7 => ?_)
   obtain ⟨hB, hbx2, hb5⟩ := cX k7 hB hbx2 hb5
   refine ac (ax rfl) rfl (ac (ax rfl) rfl (ac (eg rfl rfl (by omega)) rfl (ac (cI rfl rfl (by omega)) rfl (ac (cI rfl rfl (by omega)) rfl (ac (ap (m / 64 + i + 1) aH aY rfl rfl (by omega) (by omega)) rfl (sw_gz (e' := (upd g (m / 64 + i) (bits .or .u64 z6 (IntKind.u64.wrap (z5 * 2 ^ (((m : Int) % 64) : Int).toNat)))) (m / 64 + i + 1)) (aZ ai rfl hb5 (bO (by omega))) (rfl) rfl (fun z8 h3 => ac (ax rfl) rfl (ac (ax rfl) rfl (ac (e9 rfl rfl (by omega)) rfl (ac (eG rfl rfl (by omega)) rfl (ac (fa rfl rfl (by constructor <;> (try simp only [IntKind.bits]) <;> omega)) rfl (ac (du rfl rfl) rfl ?_))))))))))))
   refine cB (aU (ap (m / 64 + i + 1) aH aY rfl rfl (by omega) (by omega)) rfl (a6 (eV (v := (bits .or .u64 z8 (z5 / 2 ^ ((64 - ((m : Int) % 64)) : Int).toNat))) aY rfl rfl hb5 (by omega)) ?_))
   rintro _ w9 ⟨hb6, k8, z9⟩
   replace hbx2 := hbx2.keep k8 (nm ne_b1_b3)
   replace hB := hB.new k8 (nw ge_b3)
   clear z9
   refine aT (aW [(2, _), (4, _), (0, _), (8, _), (9, _)] ⟨rfl, rfl, rfl, rfl, rfl, trivial⟩ (bg (aR (aU (cI rfl rfl (by omega)) rfl (ogm rfl rfl (aT (cA (Γ := Nat × (Nat → Int)) ⟨i + 1, _⟩ ⟨rfl, rfl, rfl, rfl, rfl, trivial⟩ (by (try dsimp only); omega) (⟨by omega, shI_two (t := (IntKind.u64.wrap (z5 * 2 ^ (((m : Int) % 64) : Int).toNat))) (y := (z5 / 2 ^ ((64 - ((m : Int) % 64)) : Int).toNat)) (v := (bits .or .u64 z6 (IntKind.u64.wrap (z5 * 2 ^ (((m : Int) % 64) : Int).toNat)))) (u := (bits .or .u64 z8 (z5 / 2 ^ ((64 - ((m : Int) % 64)) : Int).toNat))) hI hm (by omega) (by have a := h1; unfold Eqn at a; rw [a, show ((m : Int) % 64).toNat = m % 64 by omega]) (by have a := h2; unfold Eqn at a; rw [a]) (by omega) (by have a := h1; unfold Eqn at a; rw [a, show ((64 - ((m : Int) % 64)) : Int).toNat = 64 - m % 64 by omega]) (by have a := h3; unfold Eqn at a; rw [a]), hbx2, hb6, hB⟩))))))))
  ·
   refine a8 (bg (aR (aU (cI rfl rfl (by omega)) rfl (ogm rfl rfl (aT (cA (Γ := Nat × (Nat → Int)) ⟨i + 1, _⟩ ⟨rfl, rfl, rfl, rfl, rfl, trivial⟩ (by (try dsimp only); omega) (⟨by omega, shI_one (t := (IntKind.u64.wrap (z5 * 2 ^ (((m : Int) % 64) : Int).toNat))) (v := (bits .or .u64 z6 (IntKind.u64.wrap (z5 * 2 ^ (((m : Int) % 64) : Int).toNat)))) hI hm (by omega) (by have a := h1; unfold Eqn at a; rw [a, show ((m : Int) % 64).toNat = m % 64 by omega]) (by have a := h2; unfold Eqn at a; rw [a]) (by omega), hbx2, hb5, hB⟩)))))))
 ·
  refine bE rfl (aS (aR (aU (aX (cs' := iv .u64 9 g) iS dD rfl hbx4 rfl rfl) rfl (a6 (dv (vs := iv .u64 9 g) dD rfl rfl rfl ad hbx2 rfl) ?_))))
  rintro _ w10 ⟨hb7, k9, z10⟩
  replace hB := hB.new k9 (nw ge_b1)
  clear z10
  refine aT (bP hfin Tryd.results45 rfl (ae iS dD hb7 rfl)  ?_)
  exact ⟨g, rfl, shI_end hI (by omega), hB⟩
theorem gi (n : Int) (h0 : 0 ≤ n) (h1 : n ≤ 264) (w : World) : Rets Tryd.prog 45 [.int .i64 n] w (fun v w' => ∃ g, v = .agg (iv .u64 9 g).toArray ∧ (Wd g ∧ vW g 9 = 7237005577332262213973186563042994240857116359379907606001950938285454250989 * 2 ^ n.toNat) ∧ Keep [] w w') := by
  obtain ⟨m, rfl⟩ := Int.eq_ofNat_of_zero_le h0
  exact kc m (by omega) w
theorem i4 (f : Nat → Int) (hf : Wd f) (hb : vW f 9 < 7237005577332262213973186563042994240857116359379907606001950938285454250989 * 2 ^ 265) (w : World) : Rets Tryd.prog 32 [.agg (iv .u64 9 f).toArray] w (fun v w' => ∃ g, v = .agg (iv .u64 9 g).toArray ∧ (Wd g ∧ vW g 9 = vW f 9 % 7237005577332262213973186563042994240857116359379907606001950938285454250989) ∧ Keep [] w w') := by
  have hB : Keep [] w w := Keep.refl _ _
  refine a7 Tryd.func32 rfl (by decide) Tryd.ntmps32 rfl (fun fin _ hfin => aS (aR (a9 (bc (cs := iv .u64 9 f) rfl rfl) rfl ?_)))
  rintro _ w1 ⟨b1, rfl, eb1, hb1, k1, z1⟩
  have ge_b1 : w.heap.size ≤ b1 := by have := hB.size; omega
  replace hB := hB.trans k1
  clear eb1 z1
  refine a9 (ab dD) rfl ?_
  rintro _ w2 ⟨b2, rfl, eb2, hb2, k2, z2⟩
  have ge_b2 : w.heap.size ≤ b2 := by have := hB.size; omega
  have ne_b1_b2 : b1 ≠ b2 := by have := hb1.lt; omega
  obtain ⟨hB, hb1⟩ := bT k2 hB hb1
  clear eb2 z2
  replace hb2 : Bk w2 b2 60 (iv .u64 9 (fun _ => 0)) := by rw [iv, cG]; exact hb2
  refine aT (j7 1 (aS (j8 (aS (aS (aR (oga rfl rfl (aT ?_))))))))
  refine a5 (bi (Γ := Int × (Nat → Int)) (fun ⟨n, g⟩ => [(1, .pointer (some ⟨b1, 0, none⟩)), (2, .pointer (some ⟨b2, 0, none⟩)), (3, .int .i64 n)]) (fun ⟨n, g⟩ W => -1 ≤ n ∧ n ≤ 264 ∧ RestI f g n ∧ Bk W b1 60 (iv .u64 9 g) ∧ Bk W b2 60 (iv .u64 9 (fun _ => 0)) ∧ Keep [] w W) (fun ⟨n, g⟩ => (n + 1).toNat) ⟨264, f⟩ ⟨rfl, rfl, rfl, trivial⟩ (⟨by decide, by decide, ⟨hf, rfl, hb⟩, hb1, hb2, hB⟩) ?_)
  rintro ⟨n, g⟩ w3 ⟨hn0, hn1, hI, hbx1, hbx2, hB⟩
  refine aW [(1, .pointer (some ⟨b1, 0, none⟩)), (2, .pointer (some ⟨b2, 0, none⟩)), (3, .int .i64 n)] ⟨rfl, rfl, rfl, trivial⟩ ?_
  have hwd := hI.1
  refine aS (aS (aR (ogm rfl rfl (aU (g_ge rfl rfl) rfl (aT (bo rfl (fun hc1 => ?_) (fun hc1 => ?_)))))))
  · -- yes
    refine a8 (aS (a5 (aS ?_)))
    have gs1 := hB.size
    have lt1 := hbx1.lt
    have lt2 := hbx2.lt
    refine ge 8 [0, 1, 2, 3, 4, 5, 6] [2, 3] [] [(7, 60, List.replicate 9 (.int .u64 0))] (x := 6) rfl mixed [(1, _), (3, _), (2, _), (6, _), (7, _)] ⟨rfl, rfl, rfl, rfl, rfl, trivial⟩ (by decide +kernel) (by decide) (by decide) ?_ (fun x hx => by cases hx) rfl (fun w4 k3 => ?_)
    · simp only [List.forall_mem_cons]; exact ⟨⟨_, _, _, _, _, _, rfl, dD⟩, fun q hq => by cases hq⟩
    obtain ⟨hB, hbx1, hbx2⟩ := cX k3 hB hbx1 hbx2
    refine af 1 rfl rfl rfl rfl (fun W' kk => aX (cs' := iv .u64 9 g) iS dD rfl (Bk.pK hbx1 kk) rfl rfl) (cK 3 rfl rfl rfl rfl rfl (bY [(12, _)] rfl rfl ⟨rfl, trivial⟩ rfl (fun w6 k5 => ?_)))
    obtain ⟨hB, hbx1, hbx2⟩ := cX k5 hB hbx1 hbx2
    refine (aV (vs := [_]) rfl (gi n (by first | decide | omega) (by first | decide | omega) _)).mono ?_
    rintro _ w5 ⟨hh1, rfl, E1, k4⟩
    refine ⟨k4, nox, ?_⟩
    obtain ⟨hB, hbx1, hbx2⟩ := cX k4 hB hbx1 hbx2
    refine bY [(11, _), (13, _)] rfl rfl ⟨rfl, rfl, trivial⟩ rfl (fun w8 k7 => ?_)
    obtain ⟨hB, hbx1, hbx2⟩ := cX k7 hB hbx1 hbx2
    refine (aV (vs := [_, _]) rfl (gj _ _ hwd E1.1 _)).mono ?_
    rintro _ w7 ⟨hh2, rfl, E2, k6⟩
    refine ⟨k6, nox, ?_⟩
    obtain ⟨hB, hbx1, hbx2⟩ := cX k6 hB hbx1 hbx2
    refine cK 14 rfl rfl rfl rfl rfl (af 10 rfl rfl rfl rfl (fun W' kk => ar (vs := [_, _]) rfl rfl) (af 10 rfl rfl rfl rfl (fun W' kk => ar (vs := [_, _]) rfl rfl) (jI (fun w9 k8 => ?_))))
    obtain ⟨hB, hbx1, hbx2⟩ := cX k8 hB hbx1 hbx2
    intro b3 eb3 lb1 hb3 ds1 sp1
    have ge_b3 : w.heap.size ≤ b3 := Nat.le_trans gs1 eb3
    have ne_b1_b3 : b1 ≠ b3 := Nat.ne_of_lt (Nat.lt_of_lt_of_le lt1 eb3)
    have ne_b2_b3 : b2 ≠ b3 := Nat.ne_of_lt (Nat.lt_of_lt_of_le lt2 eb3)
    replace hb3 : Bk w9 b3 60 (iv .u64 9 (fun _ => 0)) := by rw [iv, cG]; exact hb3
    refine iJ (tailx [(4, _), (15, _)] rfl ⟨rfl, rfl, trivial⟩ rfl (dv (vs := iv .u64 9 hh2) dD rfl rfl rfl ad hb3 rfl) ?_)
    rintro _ w10 ⟨hb4, k9, z3⟩
    replace hbx1 := hbx1.keep k9 (nm ne_b1_b3)
    replace hbx2 := hbx2.keep k9 (nm ne_b2_b3)
    replace hB := hB.new k9 (nw ge_b3)
    clear z3
    refine oga rfl rfl (aT (aS (aS (aR (ogm rfl rfl (aU (iq rfl) rfl (aT (dH rfl (fun hc2 => ?_) (fun hc2 => ?_)))))))))
    · -- yes
      have hd1 := hc2
      try (simp only [Bool.and_eq_true, Bool.or_eq_true, decide_eq_true_eq, Bool.and_eq_false_iff, Bool.or_eq_false_iff, decide_eq_false_iff_not, Bool.not_eq_true', Bool.not_eq_false', Bool.not_eq_true, Bool.not_eq_false, ne_eq, Decidable.not_not] at hd1)
      refine bE rfl (aR (ogm rfl rfl (aU (eG rfl rfl (by omega)) rfl (oga rfl rfl (aT (cA (Γ := Int × (Nat → Int)) ⟨n - 1, _⟩ ⟨rfl, rfl, rfl, trivial⟩ (by (try dsimp only); omega) (⟨by omega, by omega, nd (by omega) hI E1.2 (by simpa using hc2), hbx1, hbx2, hB⟩)))))))
    · -- no
      have hd2 := hc2
      try (simp only [Bool.and_eq_true, Bool.or_eq_true, decide_eq_true_eq, Bool.and_eq_false_iff, Bool.or_eq_false_iff, decide_eq_false_iff_not, Bool.not_eq_true', Bool.not_eq_false', Bool.not_eq_true, Bool.not_eq_false, ne_eq, Decidable.not_not] at hd2)
      refine a8 (aR (aU (aX (cs' := iv .u64 9 hh2) iS dD rfl hb4 rfl rfl) rfl (a6 (dv (vs := iv .u64 9 hh2) dD rfl rfl rfl ad hbx1 rfl) ?_)))
      rintro _ w11 ⟨hb5, k10, z4⟩
      replace hbx2 := hbx2.keep k10 (nm (Ne.symm ne_b1_b2))
      replace hB := hB.new k10 (nw ge_b1)
      clear z4
      refine aT (bg (aR (ogm rfl rfl (aU (eG rfl rfl (by omega)) rfl (oga rfl rfl (aT (cA (Γ := Int × (Nat → Int)) ⟨n - 1, _⟩ ⟨rfl, rfl, rfl, trivial⟩ (by (try dsimp only); omega) (⟨by omega, by omega, mZ (by omega) hI E1.2 E2.1 (E2.2 (by simpa using hc2)), hb5, hbx2, hB⟩))))))))
  · -- no
    refine bE rfl (aS (aR (aU (aX (cs' := iv .u64 9 g) iS dD rfl hbx1 rfl rfl) rfl (a6 (dv (vs := iv .u64 9 g) dD rfl rfl rfl ad hbx2 rfl) ?_))))
    rintro _ w12 ⟨hb6, k11, z5⟩
    replace hB := hB.new k11 (nw ge_b2)
    clear z5
    refine aT (bP hfin Tryd.results32 rfl (ae iS dD hb6 rfl)  ?_)
    exact ⟨g, rfl, m6 hI (by omega), hB⟩
theorem lX {xs : List UInt8} (h : xs.length = 32) : 0 ≤ leI xs ∧ leI xs < 115792089237316195423570985008687907853269984665640564039457584007913129639936 := by
 have := d8 xs; rw [h] at this; exact this
theorem jf {x : Int} (h : x < 13407807929942597099574024998205846127479365820592393377723561443721764030073546976801874298166903427690031858186486050853753882811946569946433649006084096 * 2) : x < 7237005577332262213973186563042994240857116359379907606001950938285454250989 * 2 ^ 265 := by
 have : (13407807929942597099574024998205846127479365820592393377723561443721764030073546976801874298166903427690031858186486050853753882811946569946433649006084096 * 2 : Int) ≤ 7237005577332262213973186563042994240857116359379907606001950938285454250989 * 2 ^ 265 := by rw [show (265 : Nat) = 200 + 65 from rfl, Int.pow_add]; decide
 omega
theorem oE {x y c0 : Nat → Int} {i : Nat} (hx : Wd x) (hi : i < 4) (hy : 0 ≤ vW y 5 ∧ vW y 5 < 115792089237316195423570985008687907853269984665640564039457584007913129639936) (hc : vW c0 9 < 115792089237316195423570985008687907853269984665640564039457584007913129639936) : vW c0 9 + vW x (i + 1) * vW y 5 < 13407807929942597099574024998205846127479365820592393377723561443721764030073546976801874298166903427690031858186486050853753882811946569946433649006084096 * 2 := by
 have b := gI (f := x) (n := i + 1) (fun j hj => hx j (by omega))
 have hp : (18446744073709551616 : Int) ^ (i + 1) ≤ 115792089237316195423570985008687907853269984665640564039457584007913129639936 := by
   have : ∀ m : Fin 4, (18446744073709551616 : Int) ^ (m.val + 1) ≤ 115792089237316195423570985008687907853269984665640564039457584007913129639936 := by decide +kernel
   exact this ⟨i, hi⟩
 have h1 : vW x (i + 1) * vW y 5 ≤ 115792089237316195423570985008687907853269984665640564039457584007913129639936 * 115792089237316195423570985008687907853269984665640564039457584007913129639936 := Int.mul_le_mul (by omega) (by omega) hy.1 (by decide)
 omega
theorem ke (v1 v2 v3 : Value) (xs ys zs : List UInt8) (w : World) (hv1 : RdB w v1 xs) (hv2 : RdB w v2 ys) (hv3 : RdB w v3 zs) (hx : xs.length = 32) (hy : ys.length = 32) (hz : zs.length = 32) : Rets Tryd.prog 14 [v1, v2, v3] w (fun r w' => ∃ u, r = .tuple #[u, .int .i64 0] ∧ OwnB w' w.heap.size u (leB ((leI zs + leI xs * leI ys) % 7237005577332262213973186563042994240857116359379907606001950938285454250989) 32) ∧ Keep [] w w') := by
 have hB : Keep [] w w := Keep.refl _ _
 refine a7 Tryd.func14 rfl (by decide) Tryd.ntmps14 rfl (fun fin _ hfin => aS (aR (oga rfl rfl (oga rfl rfl (aT (aS (aS (aR (ogm rfl rfl (aU (bp aB rfl (by first | assumption | exact Own.rd ‹_› | exact Rd.pK ‹_› hB | exact Own.rd (Own.pK ‹_› hB))) rfl (aU (dU rfl rfl) rfl (ogm rfl rfl (bw (grdT rfl rfl rfl (by simp [hx])) (ax rfl) rfl (bw (grdT rfl rfl rfl (by simp [hx])) (bp aB rfl (by first | assumption | exact Own.rd ‹_› | exact Rd.pK ‹_› hB | exact Own.rd (Own.pK ‹_› hB))) rfl (bw (grdT rfl rfl rfl (by simp [hx])) (dU rfl rfl) rfl (aU (dd rfl (by simp [hx]) rfl) rfl (ogm rfl rfl (bw (grdT rfl rfl rfl (by simp [hy])) (ax rfl) rfl ?_))))))))))))))))))
 refine bw (grdT rfl rfl rfl (by simp [hy])) (bp aB rfl (by first | assumption | exact Own.rd ‹_› | exact Rd.pK ‹_› hB | exact Own.rd (Own.pK ‹_› hB))) rfl (bw (grdT rfl rfl rfl (by simp [hy])) (dU rfl rfl) rfl (aU (dd rfl (by simp [hy]) rfl) rfl (aT (aW [(0, _), (1, _), (2, _), (30, _)] ⟨rfl, rfl, rfl, rfl, trivial⟩ (cU rfl (by omega) (a8 (aS (aR (ogm rfl rfl (a9 (aV (vs := [_]) rfl (fU _ _ _ (by first | assumption | exact Own.rd ‹_› | exact Rd.pK ‹_› hB | exact Own.rd (Own.pK ‹_› hB)) hx)) rfl ?_))))))))))
 rintro _ w1 ⟨hh1, rfl, E1, k1⟩
 replace hB := hB.trans k1
 refine ogm rfl rfl (a9 (aV (vs := [_]) rfl (fU _ _ _ (by first | assumption | exact Own.rd ‹_› | exact Rd.pK ‹_› hB | exact Own.rd (Own.pK ‹_› hB)) hy)) rfl ?_)
 rintro _ w2 ⟨hh2, rfl, E2, k2⟩
 replace hB := hB.trans k2
 refine ogm rfl rfl (a9 (aV (vs := [_]) rfl (fU _ _ _ (by first | assumption | exact Own.rd ‹_› | exact Rd.pK ‹_› hB | exact Own.rd (Own.pK ‹_› hB)) hz)) rfl ?_)
 rintro _ w3 ⟨hh3, rfl, E3, k3⟩
 replace hB := hB.trans k3
 refine a9 (ab dD) rfl ?_
 rintro _ w4 ⟨b1, rfl, eb1, hb1, k4, z1⟩
 have ge_b1 : w.heap.size ≤ b1 := by have := hB.size; omega
 replace hB := hB.trans k4
 clear eb1 z1
 replace hb1 : Bk w4 b1 60 (iv .u64 9 (fun _ => 0)) := by rw [iv, cG]; exact hb1
 refine a9 (ab dD) rfl ?_
 rintro _ w5 ⟨b2, rfl, eb2, hb2, k5, z2⟩
 have ge_b2 : w.heap.size ≤ b2 := by have := hB.size; omega
 have ne_b1_b2 : b1 ≠ b2 := by have := hb1.lt; omega
 obtain ⟨hB, hb1⟩ := bT k5 hB hb1
 clear eb2 z2
 replace hb2 : Bk w5 b2 60 (iv .u64 9 (fun _ => 0)) := by rw [iv, cG]; exact hb2
 refine a9 (ab dD) rfl ?_
 rintro _ w6 ⟨b3, rfl, eb3, hb3, k6, z3⟩
 have ge_b3 : w.heap.size ≤ b3 := by have := hB.size; omega
 have ne_b1_b3 : b1 ≠ b3 := by have := hb1.lt; omega
 have ne_b2_b3 : b2 ≠ b3 := by have := hb2.lt; omega
 obtain ⟨hB, hb1, hb2⟩ := cX k6 hB hb1 hb2
 clear eb3 z3
 replace hb3 : Bk w6 b3 60 (iv .u64 9 (fun _ => 0)) := by rw [iv, cG]; exact hb3
 refine a6 (dv (vs := iv .u64 9 hh1) dD rfl rfl rfl ad hb1 rfl) ?_
 rintro _ w7 ⟨hb4, k7, z4⟩
 replace hb2 := hb2.keep k7 (nm (Ne.symm ne_b1_b2))
 replace hb3 := hb3.keep k7 (nm (Ne.symm ne_b1_b3))
 replace hB := hB.new k7 (nw ge_b1)
 clear z4
 refine a6 (dv (vs := iv .u64 9 hh2) dD rfl rfl rfl ad hb2 rfl) ?_
 rintro _ w8 ⟨hb5, k8, z5⟩
 replace hb3 := hb3.keep k8 (nm (Ne.symm ne_b2_b3))
 replace hb4 := hb4.keep k8 (nm ne_b1_b2)
 replace hB := hB.new k8 (nw ge_b2)
 clear z5
 refine a6 (dv (vs := iv .u64 9 hh3) dD rfl rfl rfl ad hb3 rfl) ?_
 rintro _ w9 ⟨hb6, k9, z6⟩
 replace hb4 := hb4.keep k9 (nm ne_b1_b3)
 replace hb5 := hb5.keep k9 (nm ne_b2_b3)
 replace hB := hB.new k9 (nw ge_b3)
 clear z6
 refine aT (aW [(8, _), (9, _), (10, _)] ⟨rfl, rfl, rfl, trivial⟩ (aS (aS (aR (ogm rfl rfl (aT (a5 ?_)))))))
 have htx := nK (f := hh1) E1.2.2
 have hty := nK (f := hh2) E2.2.2
 have hmb := fun i (hi : i < 4) => oE (x := hh1) (y := hh2) (c0 := hh3) (i := i) E1.2.1 hi (by rw [hty.1, E2.1]; exact lX hy) (by rw [E3.1]; exact (lX hz).2)
 refine bi (Γ := Nat × (Nat → Int)) (fun ⟨i, g⟩ => [(8, .pointer (some ⟨b1, 0, none⟩)), (9, .pointer (some ⟨b2, 0, none⟩)), (10, .pointer (some ⟨b3, 0, none⟩)), (37, .int .i64 (i : Int))]) (fun ⟨i, g⟩ W => i ≤ 4 ∧ MaI hh1 hh2 hh3 g i ∧ Bk W b1 60 (iv .u64 9 hh1) ∧ Bk W b2 60 (iv .u64 9 hh2) ∧ Bk W b3 60 (iv .u64 9 g) ∧ Keep [] w W) (fun ⟨i, g⟩ => 4 - i) ⟨0, _⟩ ⟨rfl, rfl, rfl, rfl, trivial⟩ (⟨by decide, ⟨E3.2.1, by simp [vW]⟩, hb4, hb5, hb6, hB⟩) ?_
 rintro ⟨i, g⟩ w10 ⟨hi, hI, hbx8, hbx9, hbx10, hB⟩
 refine aW [(8, .pointer (some ⟨b1, 0, none⟩)), (9, .pointer (some ⟨b2, 0, none⟩)), (10, .pointer (some ⟨b3, 0, none⟩)), (37, .int .i64 (i : Int))] ⟨rfl, rfl, rfl, rfl, trivial⟩ (aS (aR (aU (bW rfl rfl) rfl (aT (aS (bo rfl (fun hc1 => ?_) (fun hc1 => ?_)))))))
 ·
  refine a8 (aS (a5 (aS (aR (ogm rfl rfl (oga rfl rfl (aT (aS (aR (oga rfl rfl (aT (aS (aS (aR (ogm rfl rfl (aT (a5 (bi (Γ := Nat × (Nat → Int) × Int) (fun ⟨k, g2, c⟩ => [(8, .pointer (some ⟨b1, 0, none⟩)), (9, .pointer (some ⟨b2, 0, none⟩)), (10, .pointer (some ⟨b3, 0, none⟩)), (11, .int .i64 (i : Int)), (12, .int .u64 c), (37, .int .i64 (i : Int)), (40, .int .i64 (k : Int))]) (fun ⟨k, g2, c⟩ W => k ≤ 5 ∧ MaJ hh1 hh2 hh3 g2 i k c ∧ Bk W b1 60 (iv .u64 9 hh1) ∧ Bk W b2 60 (iv .u64 9 hh2) ∧ Bk W b3 60 (iv .u64 9 g2) ∧ Keep [] w W) (fun ⟨k, g2, c⟩ => 5 - k) ⟨0, _, 0⟩ ⟨rfl, rfl, rfl, rfl, rfl, rfl, rfl, trivial⟩ (⟨by decide, mj hI, hbx8, hbx9, hbx10, hB⟩) ?_))))))))))))))))))
  rintro ⟨k, g2, c⟩ w11 ⟨hk, hJ, hbx8, hbx9, hbx10, hB⟩
  refine aW [(8, .pointer (some ⟨b1, 0, none⟩)), (9, .pointer (some ⟨b2, 0, none⟩)), (10, .pointer (some ⟨b3, 0, none⟩)), (11, .int .i64 (i : Int)), (12, .int .u64 c), (37, .int .i64 (i : Int)), (40, .int .i64 (k : Int))] ⟨rfl, rfl, rfl, rfl, rfl, rfl, rfl, trivial⟩ (aS (aR (aU (bW rfl rfl) rfl (aT (aS (bo rfl (fun hc2 => ?_) (fun hc2 => ?_)))))))
  ·
   refine a8 (aS (a5 (aS (aR (ogm rfl rfl (oga rfl rfl (aT (aS (dm mixed (by decide +kernel) (fun w12 k10 => ?_))))))))))
   obtain ⟨hB, hbx8, hbx9, hbx10⟩ := cy k10 hB hbx8 hbx9 hbx10
   refine ac (ax rfl) rfl (ac (ap (i) aH aY rfl rfl (by omega) (by omega)) rfl (bk (e' := hh1 i) (lo := 0) (hi := 18446744073709551615) (aZ ai rfl hbx8 (bO (by omega))) (rfl) ((E1.2.1 _ (by omega))) rfl (fun z7 h1 r1 => ac (ax rfl) rfl (ac (ap (k) aH aY rfl rfl (by omega) (by omega)) rfl (bk (e' := hh2 k) (lo := 0) (hi := 18446744073709551615) (aZ ai rfl hbx9 (bO (by omega))) (rfl) ((E2.2.1 _ (by omega))) rfl (fun z8 h2 r2 => sw_call (vs := [_, _]) rfl (fz _ _ (In.wk r1 rfl) (In.wk r2 rfl) _) rfl (ac (ax rfl) rfl (bk (e' := (z7 * z8 / 18446744073709551616)) (lo := 0) (hi := 18446744073709551614) (ar (vs := [_, _]) rfl rfl) (rfl) (In.wk (bB (bZ r1 r2 (by decide) (by decide)) (by decide)) rfl) rfl (fun z9 h3 r3 => bk (e' := (z7 * z8 % 18446744073709551616)) (lo := 0) (hi := 18446744073709551615) (ar (vs := [_, _]) rfl rfl) (rfl) (In.wk (au _ (by decide)) rfl) rfl (fun z10 h4 r4 => ac (fK rfl) rfl (ac (fK rfl) rfl (cB (aT (aW [(8, _), (9, _), (10, _), (11, _), (12, _), (37, _), (40, _), (13, _), (14, _), (15, _)] ⟨rfl, rfl, rfl, rfl, rfl, rfl, rfl, rfl, rfl, rfl, trivial⟩ ?_))))))))))))))
   refine aS (aR (oga rfl rfl (aT (aS (aR (ogm rfl rfl (ogm rfl rfl (aU (d5 (vs := [_, _, _]) rfl (ck _ _ _ (In.wk r4 rfl) (In.wk hJ.2.1 rfl) (In.wk (dG 0) rfl))) rfl (ogm rfl rfl (ag (e' := ((z10 + c + 0) % 18446744073709551616)) (lo := 0) (hi := 18446744073709551615) (ar (vs := [_, _]) rfl rfl) (rfl) (In.wk (au _ (by decide)) rfl) rfl (fun z11 h5 r5 => ag (e' := ((z10 + c + 0) / 18446744073709551616)) (lo := 0) (hi := 1) (ar (vs := [_, _]) rfl rfl) (rfl) (In.wk (bB (al (al r4 hJ.2.1) (dG 0)) (by decide)) rfl) rfl (fun z12 h6 r6 => oga rfl rfl (oga rfl rfl (aT (aS (aR (ogm rfl rfl (ogm rfl rfl (ag (e' := z9 + z12) (lo := 0) (hi := 18446744073709551615) (an rfl rfl) (am (al r3 r6) rfl) (In.wk (al r3 r6) rfl) rfl (fun z13 h7 r7 => oga rfl rfl (aT (aW [(8, _), (9, _), (10, _), (11, _), (37, _), (40, _), (13, _), (14, _), (15, _)] ⟨rfl, rfl, rfl, rfl, rfl, rfl, rfl, rfl, rfl, trivial⟩ (aS (aR (ogm rfl rfl (ogm rfl rfl (aU (cI rfl rfl (by omega)) rfl (ogm rfl rfl (ogm rfl rfl (aU (cI rfl rfl (by omega)) rfl ?_))))))))))))))))))))))))))))))
   refine aU (ap (i + k) aH aY rfl rfl (by omega) (by omega)) rfl (ag (e' := g2 (i + k)) (lo := 0) (hi := 18446744073709551615) (aZ ai rfl hbx10 (bO (by omega))) (rfl) ((hJ.1 _ (by omega))) rfl (fun z14 h8 r8 => ogm rfl rfl (aU (d5 (vs := [_, _, _]) rfl (ck _ _ _ (In.wk r8 rfl) (In.wk r5 rfl) (In.wk (dG 0) rfl))) rfl (ogm rfl rfl (ag (e' := ((z14 + z11 + 0) % 18446744073709551616)) (lo := 0) (hi := 18446744073709551615) (ar (vs := [_, _]) rfl rfl) (rfl) (In.wk (au _ (by decide)) rfl) rfl (fun z15 h9 r9 => ag (e' := ((z14 + z11 + 0) / 18446744073709551616)) (lo := 0) (hi := 1) (ar (vs := [_, _]) rfl rfl) (rfl) (In.wk (bB (al (al r8 r5) (dG 0)) (by decide)) rfl) rfl (fun z16 h10 r10 => aU (ap (i + k) aH aY rfl rfl (by omega) (by omega)) rfl (a6 (eV (v := z15) aY rfl rfl hbx10 (by omega)) ?_))))))))
   rintro _ w13 ⟨hb7, k11, z17⟩
   replace hbx8 := hbx8.keep k11 (nm ne_b1_b3)
   replace hbx9 := hbx9.keep k11 (nm ne_b2_b3)
   replace hB := hB.new k11 (nw ge_b3)
   clear z17
   refine oga rfl rfl (aT (aW [(8, _), (9, _), (10, _), (11, _), (37, _), (40, _), (14, _), (16, _)] ⟨rfl, rfl, rfl, rfl, rfl, rfl, rfl, rfl, trivial⟩ (aR (ogm rfl rfl (ogm rfl rfl (ag (e' := (z13 + z16) % 18446744073709551616) (lo := 0) (hi := 18446744073709551615) (an rfl rfl) (cH rfl _) (In.wk (au _ (by decide)) rfl) rfl (fun z18 h11 r11 => oga rfl rfl (aT (bg (aR (aU (cI rfl rfl (by omega)) rfl (ogm rfl rfl (aT ?_)))))))))))))
   have hsum := ma_sum (a := z7) (b := z8) (c := c) (d := z14) (p := z7 * z8) (lo1 := z11) (v := z15) (c2 := z18) r1 r2 hJ.2.1 r8 rfl (by simp only [Eqn] at *; omega) (by simp only [Eqn] at *; omega) (by simp only [Eqn] at *; omega)
   rw [show z7 = _ from h1, show z8 = _ from h2, show z14 = _ from h8] at hsum
   refine cA (Γ := Nat × (Nat → Int) × Int) ⟨k + 1, _, _⟩ ⟨rfl, rfl, rfl, rfl, rfl, rfl, rfl, trivial⟩ (by (try dsimp only); omega) (⟨by omega, oG hJ (by omega) hsum.1 hsum.2.1 hsum.2.2, hbx8, hbx9, hb7, hB⟩)
  ·
   refine bE rfl (aS (aR (ogm rfl rfl (aU (cI rfl rfl (by omega)) rfl (oga rfl rfl (aT (a5 (bi (Γ := Nat × (Nat → Int) × Int) (fun ⟨k3, g3, e⟩ => [(8, .pointer (some ⟨b1, 0, none⟩)), (9, .pointer (some ⟨b2, 0, none⟩)), (10, .pointer (some ⟨b3, 0, none⟩)), (12, .int .u64 e), (17, .int .i64 (k3 : Int)), (37, .int .i64 (i : Int))]) (fun ⟨k3, g3, e⟩ W => k3 ≤ 9 ∧ MaT hh1 hh2 hh3 g3 i k3 e ∧ Bk W b1 60 (iv .u64 9 hh1) ∧ Bk W b2 60 (iv .u64 9 hh2) ∧ Bk W b3 60 (iv .u64 9 g3) ∧ Keep [] w W) (fun ⟨k3, g3, e⟩ => 9 - k3) ⟨i + 5, _, _⟩ ⟨rfl, rfl, rfl, rfl, rfl, rfl, trivial⟩ (⟨by omega, mi hJ (by omega), hbx8, hbx9, hbx10, hB⟩) ?_))))))))
   rintro ⟨k3, g3, e⟩ w14 ⟨hk3, hT, hbx8, hbx9, hbx10, hB⟩
   refine aW [(8, .pointer (some ⟨b1, 0, none⟩)), (9, .pointer (some ⟨b2, 0, none⟩)), (10, .pointer (some ⟨b3, 0, none⟩)), (12, .int .u64 e), (17, .int .i64 (k3 : Int)), (37, .int .i64 (i : Int))] ⟨rfl, rfl, rfl, rfl, rfl, rfl, trivial⟩ (aS (aS (aR (ogm rfl rfl (aU (bW rfl rfl) rfl (ogm rfl rfl (fy 84 true rfl (fun c1 hgc1 => df [(12, _)] (dh rfl rfl rfl hgc1) ⟨fu rfl, trivial⟩ (fun hw1 => ax rfl) rfl (df [(85, _)] (dh rfl rfl rfl hgc1) ⟨eA rfl, trivial⟩ (fun hw2 => lA rfl rfl) rfl (aU (kz rfl rfl hgc1) rfl (aT (dH rfl (fun hc3 => ?_) (fun hc3 => ?_)))))))))))))
   ·
    have hd1 := hc3
    try (simp only [Bool.and_eq_true, Bool.or_eq_true, decide_eq_true_eq, Bool.and_eq_false_iff, Bool.or_eq_false_iff, decide_eq_false_iff_not, Bool.not_eq_true', Bool.not_eq_false', Bool.not_eq_true, Bool.not_eq_false, ne_eq, Decidable.not_not] at hd1)
    refine a8 (aS (a5 (aR (ogm rfl rfl (ogm rfl rfl (aU (ap (k3) aH aY rfl rfl (by omega) (by omega)) rfl (ag (e' := g3 k3) (lo := 0) (hi := 18446744073709551615) (aZ ai rfl hbx10 (bO (by omega))) (rfl) ((hT.1 _ (by omega))) rfl (fun z19 h12 r12 => ogm rfl rfl (aU (d5 (vs := [_, _, _]) rfl (ck _ _ _ (In.wk r12 rfl) (In.wk hT.2.1 rfl) (In.wk (dG 0) rfl))) rfl (ogm rfl rfl (ag (e' := ((z19 + e + 0) % 18446744073709551616)) (lo := 0) (hi := 18446744073709551615) (ar (vs := [_, _]) rfl rfl) (rfl) (In.wk (au _ (by decide)) rfl) rfl (fun z20 h13 r13 => ag (e' := ((z19 + e + 0) / 18446744073709551616)) (lo := 0) (hi := 1) (ar (vs := [_, _]) rfl rfl) (rfl) (In.wk (bB (al (al r12 hT.2.1) (dG 0)) (by decide)) rfl) rfl (fun z21 h14 r14 => aU (ap (k3) aH aY rfl rfl (by omega) (by omega)) rfl (a6 (eV (v := z20) aY rfl rfl hbx10 (by omega)) ?_))))))))))))))
    rintro _ w15 ⟨hb8, k12, z22⟩
    replace hbx8 := hbx8.keep k12 (nm ne_b1_b3)
    replace hbx9 := hbx9.keep k12 (nm ne_b2_b3)
    replace hB := hB.new k12 (nw ge_b3)
    clear z22
    refine oga rfl rfl (aT (aW [(8, _), (9, _), (10, _), (12, _), (17, _), (37, _)] ⟨rfl, rfl, rfl, rfl, rfl, rfl, trivial⟩ (bg (aR (ogm rfl rfl (aU (cI rfl rfl (by omega)) rfl (oga rfl rfl (aT (cA (Γ := Nat × (Nat → Int) × Int) ⟨k3 + 1, _, _⟩ ⟨rfl, rfl, rfl, rfl, rfl, rfl, trivial⟩ (by (try dsimp only); omega) (⟨by omega, oF hT (by omega) (by have a := h12; have b := h13; unfold Eqn at *; rw [b, a]) (by have a := h12; have b := h14; unfold Eqn at *; rw [b, a]), hbx8, hbx9, hb8, hB⟩))))))))))
   ·
    have hd2 := hc3
    try (simp only [Bool.and_eq_true, Bool.or_eq_true, decide_eq_true_eq, Bool.and_eq_false_iff, Bool.or_eq_false_iff, decide_eq_false_iff_not, Bool.not_eq_true', Bool.not_eq_false', Bool.not_eq_true, Bool.not_eq_false, ne_eq, Decidable.not_not] at hd2)
    refine bE rfl (bg (aR (aU (cI rfl rfl (by omega)) rfl (ogm rfl rfl (aT (cA (Γ := Nat × (Nat → Int)) ⟨i + 1, _⟩ ⟨rfl, rfl, rfl, rfl, trivial⟩ (by (try dsimp only); omega) (⟨by omega, maT_end hT (by omega) (by have := hT.2.1; unfold In at this; omega) (by have := hmb i (by omega); omega), hbx8, hbx9, hbx10, hB⟩)))))))
 ·
  refine bE rfl (aS (aR (aU (aX (cs' := iv .u64 9 g) iS dD rfl hbx10 rfl rfl) rfl ?_)))
  obtain rfl : i = 4 := by omega
  have hmv : vW g 9 = leI zs + leI xs * leI ys := by
   have e := hI.2
   rw [htx.2, hty.1, E1.1, E2.1, E3.1] at e
   exact e
  refine a9 (aV (vs := [_]) rfl (i4 _ hI.1 (jf (by have := hmb 3 (by decide); rw [← hI.2] at this; exact this)) _)) rfl ?_
  rintro _ w16 ⟨hh4, rfl, E4, k13⟩
  replace hB := hB.trans k13
  refine a9 (aV (vs := [_]) rfl (jc _ E4.1 _)) rfl ?_
  rintro v1 w17 ⟨o1, k14⟩
  have gl_o1 := hB.size
  replace hB := hB.trans k14
  refine oga rfl rfl (oga rfl rfl (aT (dk hfin Tryd.results14 rfl rfl ?_)))
  have e := E4.2
  rw [hmv] at e
  rw [e] at o1
  exact ⟨_, rfl, o1.lo gl_o1, hB⟩
theorem small64 {xs : List UInt8} (h : xs.length ≤ 64) : 0 ≤ leI xs ∧ leI xs < 13407807929942597099574024998205846127479365820592393377723561443721764030073546976801874298166903427690031858186486050853753882811946569946433649006084096 := by
 have := d8 xs
 refine ⟨this.1, Int.lt_of_lt_of_le this.2 ?_⟩
 have e : (256 : Int) ^ xs.length ≤ 256 ^ 64 := by
   have e : ((256 ^ xs.length : Nat) : Int) ≤ ((256 ^ 64 : Nat) : Int) := Int.ofNat_le.2 (Nat.pow_le_pow_right (show 0 < 256 by decide) h)
   rw [Int.natCast_pow, Int.natCast_pow] at e; exact e
 exact Int.le_trans e (by decide +kernel)
theorem jb (v : Value) (xs : List UInt8) (w : World) (hv : RdB w v xs) (hx : xs.length ≤ 64) : Rets Tryd.prog 22 [v] w (fun r w' => ∃ u, r = .tuple #[u, .int .i64 0] ∧ OwnB w' w.heap.size u (leB (leI xs % 7237005577332262213973186563042994240857116359379907606001950938285454250989) 32) ∧ Keep [] w w') := by
 have hB : Keep [] w w := Keep.refl _ _
 refine a7 Tryd.func22 rfl (by decide) Tryd.ntmps22 rfl (fun fin _ hfin => aS (aR (oga rfl rfl (oga rfl rfl (aT (aS (aS (aR (ogm rfl rfl (aU (bp aB rfl (by first | assumption | exact Own.rd ‹_› | exact Rd.pK ‹_› hB | exact Own.rd (Own.pK ‹_› hB))) rfl (aU (lA rfl rfl) rfl (aT (cU rfl (by omega) (a8 (aS (aR (ogm rfl rfl (a9 (aV (vs := [_]) rfl (i6 _ _ _ (by first | assumption | exact Own.rd ‹_› | exact Rd.pK ‹_› hB | exact Own.rd (Own.pK ‹_› hB)) hx)) rfl ?_))))))))))))))))))
 rintro _ w1 ⟨hh1, rfl, E1, k1⟩
 replace hB := hB.trans k1
 refine a9 (aV (vs := [_]) rfl (i4 _ E1.2.1 (jf (by rw [E1.1]; have := small64 hx; omega)) _)) rfl ?_
 rintro _ w2 ⟨hh2, rfl, E2, k2⟩
 replace hB := hB.trans k2
 refine a9 (aV (vs := [_]) rfl (jc _ E2.1 _)) rfl ?_
 rintro v1 w3 ⟨o1, k3⟩
 have gl_o1 := hB.size
 replace hB := hB.trans k3
 refine oga rfl rfl (oga rfl rfl (aT (dk hfin Tryd.results22 rfl rfl ?_)))
 have e := E2.2
 rw [E1.1] at e
 rw [e] at o1
 exact ⟨_, rfl, o1.lo gl_o1, hB⟩
theorem kf (v : Value) (xs : List UInt8) (w : World) (hv : RdB w v xs) : Rets Tryd.prog 16 [v] w (fun r w' => r = .bool (decide (xs.length = 32) && decide (leI xs < 7237005577332262213973186563042994240857116359379907606001950938285454250989)) ∧ Keep [] w w') := by
  have hB : Keep [] w w := Keep.refl _ _
  refine a7 Tryd.func16 rfl (by decide) Tryd.ntmps16 rfl (fun fin _ hfin => aS (aR (oga rfl rfl (aT (aS (aS (aR (ogm rfl rfl ?_))))))))
  refine aU (bp aB rfl (by first | assumption | exact Own.rd (by assumption) | exact Rd.pK (by assumption) hB | exact Own.rd (Own.pK (by assumption) hB))) rfl (aU (dU rfl rfl) rfl (aT (bo rfl (fun hc1 => ?_) (fun hc1 => ?_))))
  · -- yes
    refine aS (aR (oga rfl rfl (aT (bD hfin Tryd.results16 rfl ?_))))
    exact ⟨by rw [decide_eq_false (show ¬ (xs.length = 32) from by omega)]; rfl, hB⟩
  · -- no
    refine a8 (aS (aR (ogm rfl rfl (a9 (aV (vs := [_]) rfl (fU _ _ _ (by first | assumption | exact Own.rd (by assumption) | exact Rd.pK (by assumption) hB | exact Own.rd (Own.pK (by assumption) hB)) (by omega))) rfl ?_))))
    rintro _ w1 ⟨hh1, rfl, E1, k1⟩
    replace hB := hB.trans k1
    refine a9 (aV (vs := [_]) rfl (gi 0 (by first | decide | omega) (by first | decide | omega) _)) rfl ?_
    rintro _ w2 ⟨hh2, rfl, E2, k2⟩
    replace hB := hB.trans k2
    refine a9 (aV (vs := [_, _]) rfl (gj _ _ E1.2.1 E2.1 _)) rfl ?_
    rintro _ w3 ⟨hh3, rfl, E3, k3⟩
    replace hB := hB.trans k3
    refine ogm rfl rfl (aU (ar (vs := [_, _]) rfl rfl) rfl (aU (ar (vs := [_, _]) rfl rfl) rfl (a9 (ab dD) rfl ?_)))
    rintro _ w4 ⟨b1, rfl, eb1, hb1, k4, z1⟩
    have ge_b1 : w.heap.size ≤ b1 := by have := hB.size; omega
    replace hB := hB.trans k4
    clear eb1 z1
    replace hb1 : Bk w4 b1 60 (iv .u64 9 (fun _ => 0)) := by rw [iv, cG]; exact hb1
    refine a6 (dv (vs := iv .u64 9 hh3) dD rfl rfl rfl ad hb1 rfl) ?_
    rintro _ w5 ⟨hb2, k5, z2⟩
    replace hB := hB.new k5 (nw ge_b1)
    clear z2
    refine oga rfl rfl (aT (aW [(4, _)] ⟨rfl, trivial⟩ (aS (aR (ogm rfl rfl (aU (iq rfl) rfl (oga rfl rfl (aT ?_))))))))
    refine bD hfin Tryd.results16 rfl ?_
    have e1 := E2.2
    rw [show (2 : Int) ^ (0 : Int).toNat = 1 from rfl, Int.mul_one] at e1
    refine ⟨congrArg Value.bool ?_, hB⟩
    rw [e1, E1.1, decide_eq_true (show xs.length = 32 from by omega), Bool.true_and]
    by_cases h : leI xs < 7237005577332262213973186563042994240857116359379907606001950938285454250989
    · rw [decide_eq_true h, decide_eq_false (show ¬ (7237005577332262213973186563042994240857116359379907606001950938285454250989 ≤ leI xs) from by omega)]; rfl
    · rw [decide_eq_false h, decide_eq_true (show 7237005577332262213973186563042994240857116359379907606001950938285454250989 ≤ leI xs from by omega)]; rfl
end Go.Proofs.YtllmbkmghmmhfaaDoor.W
namespace Go.Proofs.YtllmbkmghmmhfaaDoor.W
open Go Go.Eng Go.Byt
open Go.Sha
def Tabs (w : World) : Prop := Row w ⟨0, 0, none⟩ (iv .u64 8 (wN (KB Hl))) ∧ Row w ⟨1, 0, none⟩ (iv .u64 80 (wN (KB Kl)))
theorem Tabs.keep {S : List Nat} {w w' : World} (h : Tabs w) (k : Keep S w w') (h0 : ∀ x, x ∈ S → 1 < x) : Tabs w' := ⟨h.1.keep k (fun hm => absurd (h0 _ hm) (by decide)), h.2.keep k (fun hm => absurd (h0 _ hm) (by decide))⟩
theorem Tabs.pK {w w' : World} (h : Tabs w) (k : Keep [] w w') : Tabs w' := h.keep k (fun _ hm => by cases hm)
theorem Tabs.cube {w : World} (h : Tabs w) {i : Nat} (hi : i < 80) : w.cell? ⟨1, i, none⟩ = some (.int .u64 (((KB Kl).getD i 0).toNat : Int)) := by
 have := h.2 i _ (bO hi)
 rwa [Addr.add_lit, Nat.zero_add] at this
theorem Tabs.two {w : World} (h : Tabs w) : 1 < w.heap.size := by
 have h1 := World.block_lt_of_cell? _ _ (h.1 0 _ (bO (by decide)))
 have h2 := World.block_lt_of_cell? _ _ (h.2 0 _ (bO (by decide)))
 rw [Addr.add_lit] at h1 h2
 simp only at h1 h2
 omega
theorem gf (x : BitVec 64) (r : Nat) (hr : r ≤ 64) (w : World) : Rets Tryd.prog 76 [.int .u64 ((x).toNat : Int), .int .i64 (r : Int), .int .i64 64] w (fun v w' => v = .int .u64 ((tn x r).toNat : Int) ∧ Keep [] w w') := by
 have hB : Keep [] w w := Keep.refl _ _
 refine a7 Tryd.func76 rfl (by decide) Tryd.ntmps76 rfl (fun fin _ hfin => aS (aR (oga rfl rfl (aT (aS (dm mixed (by decide +kernel) (fun w1 k1 => ?_)))))))
 replace hB := hB.trans k1
 refine ac (ax rfl) rfl (ac (ax rfl) rfl (ac (dt r rfl rfl rfl hr) rfl (ac (ax rfl) rfl (ac (ax rfl) rfl (ac (ax rfl) rfl (ac (eG rfl rfl (by omega)) rfl (ac (oN (64 - r) rfl rfl (by omega) (by omega)) rfl (ac (gb_or rfl rfl) rfl (ac (fK rfl) rfl (cB (aT (aW [(6, _)] ⟨rfl, trivial⟩ (bD hfin Tryd.results76 rfl ?_)))))))))))))
 exact ⟨rfl, hB⟩
theorem lg (p : Nat) (x0 x1 x2 x3 x4 x5 x6 x7 x8 x9 x10 x11 x12 x13 x14 x15 x16 x17 x18 x19 x20 : Value) (x : BitVec 64) (a b c : Nat) (ha : a ≤ 64) (hb : b ≤ 64) (hc : c ≤ 64) (w : World) (hbz : Bk w p 94 [.int .i64 64, x0, x1, x2, x3, x4, x5, x6, x7, x8, x9, x10, x11, x12, x13, x14, x15, x16, x17, x18, x19, x20]) : Rets Tryd.prog 73 [.pointer (some ⟨p, 0, none⟩), .int .u64 ((x).toNat : Int), .agg [.int .i64 (a : Int), .int .i64 (b : Int), .int .i64 (c : Int)].toArray] w (fun v w' => v = .int .u64 ((lo (a, b, c) x).toNat : Int) ∧ Keep [] w w') := by
 have hB : Keep [] w w := Keep.refl _ _
 refine a7 Tryd.func73 rfl (by decide) Tryd.ntmps73 rfl (fun fin _ hfin => aS (aR (a9 (bc (cs := [.int .i64 (a : Int), .int .i64 (b : Int), .int .i64 (c : Int)]) rfl rfl) rfl ?_)))
 rintro _ w1 ⟨b1, rfl, eb1, hb1, k1, z1⟩
 obtain ⟨hB, hbz⟩ := bT k1 hB hbz
 clear eb1 z1
 refine oga rfl rfl (aT (aS (bz 24 [0, 1, 2, 3, 4, 5, 6, 7, 9, 10, 11, 12, 13, 14, 15, 16, 19, 20, 21, 22, 8, 17, 18, 23] [8, 17] [] mixed [(1, _), (5, _), (0, _), (6, _)] ⟨rfl, rfl, rfl, rfl, trivial⟩ (by decide +kernel) rfl (fun w2 k2 => ?_))))
 obtain ⟨hB, hbz, hb1⟩ := cX k2 hB hbz hb1
 refine cQ 1 rfl rfl rfl rfl rfl (ao 5 rfl rfl rfl rfl (fun W' kk => ap 0 aL fR rfl rfl (by omega) (by omega)) (ao 8 rfl rfl rfl rfl (fun W' kk => aZ gQ rfl (Bk.pK hb1 kk) rfl) (cQ 0 rfl rfl rfl rfl rfl (ao 10 rfl rfl rfl rfl (fun W' kk => bu rfl) (ao 11 rfl rfl rfl rfl (fun W' kk => aw 0 aD rfl eO (by decide) rfl rfl) (ao 12 rfl rfl rfl rfl (fun W' kk => aw 0 aF rfl fR (by decide) rfl rfl) (ao 13 rfl rfl rfl rfl (fun W' kk => aZ gQ rfl (Bk.pK hbz kk) rfl) (cQ 1 rfl rfl rfl rfl rfl ?_))))))))
 refine ao 5 rfl rfl rfl rfl (fun W' kk => ap 1 aL fR rfl rfl (by omega) (by omega)) (ao 17 rfl rfl rfl rfl (fun W' kk => aZ gQ rfl (Bk.pK hb1 kk) rfl) (cQ 0 rfl rfl rfl rfl rfl (ao 19 rfl rfl rfl rfl (fun W' kk => bu rfl) (ao 20 rfl rfl rfl rfl (fun W' kk => aw 0 aD rfl eO (by decide) rfl rfl) (ao 21 rfl rfl rfl rfl (fun W' kk => aw 0 aF rfl fR (by decide) rfl rfl) (ao 22 rfl rfl rfl rfl (fun W' kk => aZ gQ rfl (Bk.pK hbz kk) rfl) (cQ 1 rfl rfl rfl rfl rfl (ao 5 rfl rfl rfl rfl (fun W' kk => ap 2 aL fR rfl rfl (by omega) (by omega)) ?_))))))))
 refine ao 27 rfl rfl rfl rfl (fun W' kk => aZ gQ rfl (Bk.pK hb1 kk) rfl) (ct 26 28 rfl rfl rfl rfl rfl (fun W' kk => dt c rfl rfl rfl hc) (bx [(7, _), (9, _), (14, _)] rfl rfl ⟨rfl, rfl, rfl, trivial⟩ rfl (aV (vs := [_, _, _]) rfl (gf x a ha _)) ?_))
 rintro _ w3 ⟨rfl, k3⟩
 refine ⟨k3, ?_⟩
 replace hB := hB.trans k3
 refine bx [(16, _), (18, _), (23, _)] rfl rfl ⟨rfl, rfl, rfl, trivial⟩ rfl (aV (vs := [_, _, _]) rfl (gf x b hb _)) ?_
 rintro _ w4 ⟨rfl, k4⟩
 refine ⟨k4, ?_⟩
 replace hB := hB.trans k4
 refine ct 15 24 rfl rfl rfl rfl rfl (fun W' kk => fJ rfl rfl) (ct 25 29 rfl rfl rfl rfl rfl (fun W' kk => fJ rfl rfl) (cS (oga rfl rfl (aT (aW [(6, _)] ⟨rfl, trivial⟩ (bD hfin Tryd.results73 rfl ?_))))))
 exact ⟨rfl, hB⟩
theorem kK (p : Nat) (x0 x1 x2 x3 x4 x5 x6 x7 x8 x9 x10 x11 x12 x13 x14 x15 x16 x17 x18 x19 x20 : Value) (x : BitVec 64) (a b c : Nat) (ha : a ≤ 64) (hb : b ≤ 64) (hc : c ≤ 64) (w : World) (hbz : Bk w p 94 [.int .i64 64, x0, x1, x2, x3, x4, x5, x6, x7, x8, x9, x10, x11, x12, x13, x14, x15, x16, x17, x18, x19, x20]) : Rets Tryd.prog 74 [.pointer (some ⟨p, 0, none⟩), .int .u64 ((x).toNat : Int), .agg [.int .i64 (a : Int), .int .i64 (b : Int), .int .i64 (c : Int)].toArray] w (fun v w' => v = .int .u64 ((hi (a, b, c) x).toNat : Int) ∧ Keep [] w w') := by
 have hB : Keep [] w w := Keep.refl _ _
 refine a7 Tryd.func74 rfl (by decide) Tryd.ntmps74 rfl (fun fin _ hfin => aS (aR (a9 (bc (cs := [.int .i64 (a : Int), .int .i64 (b : Int), .int .i64 (c : Int)]) rfl rfl) rfl ?_)))
 rintro _ w1 ⟨b1, rfl, eb1, hb1, k1, z1⟩
 obtain ⟨hB, hbz⟩ := bT k1 hB hbz
 clear eb1 z1
 refine oga rfl rfl (aT (aS (bz 29 [0, 1, 2, 3, 4, 5, 6, 7, 9, 10, 11, 12, 13, 14, 15, 16, 19, 20, 21, 22, 23, 24, 25, 26, 8, 17, 18, 27, 28] [8, 17, 27] [] mixed [(1, _), (5, _), (0, _), (6, _)] ⟨rfl, rfl, rfl, rfl, trivial⟩ (by decide +kernel) rfl (fun w2 k2 => ?_))))
 obtain ⟨hB, hbz, hb1⟩ := cX k2 hB hbz hb1
 refine cQ 1 rfl rfl rfl rfl rfl (ao 5 rfl rfl rfl rfl (fun W' kk => ap 0 aL fR rfl rfl (by omega) (by omega)) (ao 8 rfl rfl rfl rfl (fun W' kk => aZ gQ rfl (Bk.pK hb1 kk) rfl) (cQ 0 rfl rfl rfl rfl rfl (ao 10 rfl rfl rfl rfl (fun W' kk => bu rfl) (ao 11 rfl rfl rfl rfl (fun W' kk => aw 0 aD rfl eO (by decide) rfl rfl) (ao 12 rfl rfl rfl rfl (fun W' kk => aw 0 aF rfl fR (by decide) rfl rfl) (ao 13 rfl rfl rfl rfl (fun W' kk => aZ gQ rfl (Bk.pK hbz kk) rfl) (cQ 1 rfl rfl rfl rfl rfl ?_))))))))
 refine ao 5 rfl rfl rfl rfl (fun W' kk => ap 1 aL fR rfl rfl (by omega) (by omega)) (ao 17 rfl rfl rfl rfl (fun W' kk => aZ gQ rfl (Bk.pK hb1 kk) rfl) (cQ 0 rfl rfl rfl rfl rfl (ao 19 rfl rfl rfl rfl (fun W' kk => bu rfl) (ao 20 rfl rfl rfl rfl (fun W' kk => aw 0 aD rfl eO (by decide) rfl rfl) (ao 21 rfl rfl rfl rfl (fun W' kk => aw 0 aF rfl fR (by decide) rfl rfl) (ao 22 rfl rfl rfl rfl (fun W' kk => aZ gQ rfl (Bk.pK hbz kk) rfl) (cQ 1 rfl rfl rfl rfl rfl (ao 5 rfl rfl rfl rfl (fun W' kk => ap 2 aL fR rfl rfl (by omega) (by omega)) ?_))))))))
 refine ao 27 rfl rfl rfl rfl (fun W' kk => aZ gQ rfl (Bk.pK hb1 kk) rfl) (cQ 0 rfl rfl rfl rfl rfl (ao 29 rfl rfl rfl rfl (fun W' kk => bu rfl) (ao 30 rfl rfl rfl rfl (fun W' kk => aw 0 aD rfl eO (by decide) rfl rfl) (ao 31 rfl rfl rfl rfl (fun W' kk => aw 0 aF rfl fR (by decide) rfl rfl) (ao 32 rfl rfl rfl rfl (fun W' kk => aZ gQ rfl (Bk.pK hbz kk) rfl) (bx [(7, _), (9, _), (14, _)] rfl rfl ⟨rfl, rfl, rfl, trivial⟩ rfl (aV (vs := [_, _, _]) rfl (gf x a ha _)) ?_))))))
 rintro _ w3 ⟨rfl, k3⟩
 refine ⟨k3, ?_⟩
 replace hB := hB.trans k3
 refine bx [(16, _), (18, _), (23, _)] rfl rfl ⟨rfl, rfl, rfl, trivial⟩ rfl (aV (vs := [_, _, _]) rfl (gf x b hb _)) ?_
 rintro _ w4 ⟨rfl, k4⟩
 refine ⟨k4, ?_⟩
 replace hB := hB.trans k4
 refine ct 15 24 rfl rfl rfl rfl rfl (fun W' kk => fJ rfl rfl) (bx [(26, _), (28, _), (33, _)] rfl rfl ⟨rfl, rfl, rfl, trivial⟩ rfl (aV (vs := [_, _, _]) rfl (gf x c hc _)) ?_)
 rintro _ w5 ⟨rfl, k5⟩
 refine ⟨k5, ?_⟩
 replace hB := hB.trans k5
 refine ct 25 34 rfl rfl rfl rfl rfl (fun W' kk => fJ rfl rfl) (cS (oga rfl rfl (aT (aW [(6, _)] ⟨rfl, trivial⟩ (bD hfin Tryd.results74 rfl ?_)))))
 exact ⟨rfl, hB⟩
theorem nH (w : World) : Rets Tryd.prog 50 [] w (fun v w' => v = .agg [.int .i64 64, .int .i64 80, .int .i64 1, .int .i64 8, .int .i64 7, .int .i64 19, .int .i64 61, .int .i64 6, .int .i64 28, .int .i64 34, .int .i64 39, .int .i64 14, .int .i64 18, .int .i64 41].toArray ∧ Keep [] w w') := by
 have hB : Keep [] w w := Keep.refl _ _
 refine a7 Tryd.func50 rfl (by decide) Tryd.ntmps50 rfl (fun fin _ hfin => aS (aR (a9 (ab eO) rfl ?_)))
 rintro _ w1 ⟨b1, rfl, eb1, hb1, k1, z1⟩
 have ge_b1 : w.heap.size ≤ b1 := by have := hB.size; omega
 replace hB := hB.trans k1
 clear eb1 z1
 refine aT (aS (aR (aU (cx (idx := [0, 1, 2]) (xs := [.const (.int .i64 (1)), .const (.int .i64 (8)), .const (.int .i64 (7))]) (vs := [_, _, _]) (css := [[.int .i64 1], [.int .i64 8], [.int .i64 7]]) (out := [.int .i64 1, .int .i64 8, .int .i64 7]) aL fR gP (cW 3 1) rfl rfl ⟨rfl, rfl, rfl, trivial⟩ rfl rfl) rfl (aU (cx (idx := [0, 1, 2]) (xs := [.const (.int .i64 (19)), .const (.int .i64 (61)), .const (.int .i64 (6))]) (vs := [_, _, _]) (css := [[.int .i64 19], [.int .i64 61], [.int .i64 6]]) (out := [.int .i64 19, .int .i64 61, .int .i64 6]) aL fR gP (cW 3 1) rfl rfl ⟨rfl, rfl, rfl, trivial⟩ rfl rfl) rfl (aU (cx (idx := [0, 1, 2]) (xs := [.const (.int .i64 (28)), .const (.int .i64 (34)), .const (.int .i64 (39))]) (vs := [_, _, _]) (css := [[.int .i64 28], [.int .i64 34], [.int .i64 39]]) (out := [.int .i64 28, .int .i64 34, .int .i64 39]) aL fR gP (cW 3 1) rfl rfl ⟨rfl, rfl, rfl, trivial⟩ rfl rfl) rfl (aU (cx (idx := [0, 1, 2]) (xs := [.const (.int .i64 (14)), .const (.int .i64 (18)), .const (.int .i64 (41))]) (vs := [_, _, _]) (css := [[.int .i64 14], [.int .i64 18], [.int .i64 41]]) (out := [.int .i64 14, .int .i64 18, .int .i64 41]) aL fR gP (cW 3 1) rfl rfl ⟨rfl, rfl, rfl, trivial⟩ rfl rfl) rfl ?_))))))
 refine aU (cd (idx := [0, 1, 2, 3, 4, 5]) (xs := [.const (.int .i64 (64)), .const (.int .i64 (80)), .tmp 1, .tmp 2, .tmp 3, .tmp 4]) (vs := [_, _, _, _, _, _]) (css := [[_], [_], [_, _, _], [_, _, _], [_, _, _], [_, _, _]]) (out := [_, _, _, _, _, _, _, _, _, _, _, _, _, _]) pl82 eO rfl rfl ⟨rfl, rfl, rfl, rfl, rfl, rfl, trivial⟩ rfl rfl) rfl (a6 (ak eO rfl rfl rfl (by simp only [List.forall_mem_cons]; refine ⟨rfl, rfl, rfl, rfl, rfl, rfl, rfl, rfl, rfl, rfl, rfl, rfl, rfl, rfl, fun v hv => by cases hv⟩) hb1 rfl) ?_)
 rintro _ w2 ⟨hb2, k2, z2⟩
 replace hB := hB.new k2 (nw ge_b1)
 clear z2
 replace hb2 : Bk w2 b1 _ [.int .i64 64, .int .i64 80, .int .i64 1, .int .i64 8, .int .i64 7, .int .i64 19, .int .i64 61, .int .i64 6, .int .i64 28, .int .i64 34, .int .i64 39, .int .i64 14, .int .i64 18, .int .i64 41] := hb2
 refine aT (bP hfin Tryd.results50 rfl (ae ag82 eO hb2 rfl)  ?_)
 exact ⟨rfl, hB⟩
theorem jM (w : World) (hT : Tabs w) : Rets Tryd.prog 62 [.agg [.int .i64 64, .int .i64 80, .int .i64 1, .int .i64 8, .int .i64 7, .int .i64 19, .int .i64 61, .int .i64 6, .int .i64 28, .int .i64 34, .int .i64 39, .int .i64 14, .int .i64 18, .int .i64 41].toArray] w (fun v w' => v = .agg [.int .i64 64, .int .i64 80, .int .i64 1, .int .i64 8, .int .i64 7, .int .i64 19, .int .i64 61, .int .i64 6, .int .i64 28, .int .i64 34, .int .i64 39, .int .i64 14, .int .i64 18, .int .i64 41, .int .u64 ((cst 64 Hl 0).toNat : Int), .int .u64 ((cst 64 Hl 1).toNat : Int), .int .u64 ((cst 64 Hl 2).toNat : Int), .int .u64 ((cst 64 Hl 3).toNat : Int), .int .u64 ((cst 64 Hl 4).toNat : Int), .int .u64 ((cst 64 Hl 5).toNat : Int), .int .u64 ((cst 64 Hl 6).toNat : Int), .int .u64 ((cst 64 Hl 7).toNat : Int)].toArray ∧ Keep [] w w') := by
 have hB : Keep [] w w := Keep.refl _ _
 refine a7 Tryd.func62 rfl (by decide) Tryd.ntmps62 rfl (fun fin _ hfin => aS (aR (a9 (bc (cs := [.int .i64 64, .int .i64 80, .int .i64 1, .int .i64 8, .int .i64 7, .int .i64 19, .int .i64 61, .int .i64 6, .int .i64 28, .int .i64 34, .int .i64 39, .int .i64 14, .int .i64 18, .int .i64 41]) rfl rfl) rfl ?_)))
 rintro _ w1 ⟨b1, rfl, eb1, hb1, k1, z1⟩
 replace hB := hB.trans k1
 clear eb1 z1
 refine a9 (ab jA) rfl ?_
 rintro _ w2 ⟨b2, rfl, eb2, hb2, k2, z2⟩
 have ge_b2 : w.heap.size ≤ b2 := by have := hB.size; omega
 obtain ⟨hB, hb1⟩ := bT k2 hB hb1
 clear eb2 z2
 refine aT (aS (aR (aU (aX (cs' := [_, _, _, _, _, _, _, _, _, _, _, _, _, _]) ag82 eO rfl hb1 rfl rfl) rfl (aU (cd (idx := [0]) (xs := [.tmp 6]) (vs := [_]) (css := [[_, _, _, _, _, _, _, _, _, _, _, _, _, _]]) (out := [_, _, _, _, _, _, _, _, _, _, _, _, _, _, _, _, _, _, _, _, _, _]) pl94 jA rfl rfl ⟨rfl, trivial⟩ rfl rfl) rfl (a9 (ab jA) rfl ?_)))))
 rintro _ w3 ⟨b3, rfl, eb3, hb3, k3, z3⟩
 have ge_b3 : w.heap.size ≤ b3 := by have := hB.size; omega
 have ne_b1_b3 : b1 ≠ b3 := by have := hb1.lt; omega
 have ne_b2_b3 : b2 ≠ b3 := by have := hb2.lt; omega
 obtain ⟨hB, hb1, hb2⟩ := cX k3 hB hb1 hb2
 clear eb3 z3
 refine a6 (ak jA rfl rfl rfl (by simp only [List.forall_mem_cons]; refine ⟨rfl, rfl, rfl, rfl, rfl, rfl, rfl, rfl, rfl, rfl, rfl, rfl, rfl, rfl, rfl, rfl, rfl, rfl, rfl, rfl, rfl, rfl, fun v hv => by cases hv⟩) hb3 rfl) ?_
 rintro _ w4 ⟨hb4, k4, z4⟩
 replace hb1 := hb1.keep k4 (nm ne_b1_b3)
 replace hb2 := hb2.keep k4 (nm ne_b2_b3)
 replace hB := hB.new k4 (nw ge_b3)
 clear z4
 replace hb4 : Bk w4 b3 _ [.int .i64 64, .int .i64 80, .int .i64 1, .int .i64 8, .int .i64 7, .int .i64 19, .int .i64 61, .int .i64 6, .int .i64 28, .int .i64 34, .int .i64 39, .int .i64 14, .int .i64 18, .int .i64 41, .int .u64 0, .int .u64 0, .int .u64 0, .int .u64 0, .int .u64 0, .int .u64 0, .int .u64 0, .int .u64 0] := hb4
 refine aT (aS (aS (aR (aU (oT (cs := iv .u64 8 (wN (KB Hl))) ag92 dI rfl (hT.pK hB).1 (bh _ _ _ _)) rfl (ogm rfl rfl (aT (a5 (dQ 9 (aS (aR (aU (bW rfl rfl) rfl (aT (aS (bF rfl (by decide) (a8 (aS (a5 (aS (aR (ogm rfl rfl (aU (ez (cs := iv .u64 8 (wN (KB Hl))) aC aY ai rfl rfl (by decide) (bO (by decide))) rfl (oga rfl rfl (oga rfl rfl (aT (aR (ogm rfl rfl (ogm rfl rfl (aU (aw 0 aF rfl fR (by decide) rfl rfl) rfl (aU (aZ gQ rfl hb1 rfl) rfl (aU (aq (j := 0) (cw rfl rfl) (by decide)) rfl (aU (dt 0 rfl rfl rfl (by decide)) rfl ?_)))))))))))))))))))))))))))))))
 refine aU (aw 14 aD rfl dI (by decide) rfl rfl) rfl (aU (ap (14 + 0) aC aY rfl rfl (by omega) (by omega)) rfl (a6 (cD aY rfl rfl rfl hb4 rfl) ?_))
 rintro _ w5 ⟨hb5, k5, z5⟩
 replace hb1 := hb1.keep k5 (nm ne_b1_b3)
 replace hb2 := hb2.keep k5 (nm ne_b2_b3)
 replace hB := hB.new k5 (nw ge_b3)
 clear z5
 replace hb5 : Bk w5 b3 _ [.int .i64 64, .int .i64 80, .int .i64 1, .int .i64 8, .int .i64 7, .int .i64 19, .int .i64 61, .int .i64 6, .int .i64 28, .int .i64 34, .int .i64 39, .int .i64 14, .int .i64 18, .int .i64 41, .int .u64 ((((KB Hl).getD 0 0) >>> 0).toNat : Int), .int .u64 0, .int .u64 0, .int .u64 0, .int .u64 0, .int .u64 0, .int .u64 0, .int .u64 0] := hb5
 refine aT (aW [(1, _), (2, _), (3, _), (8, _), (9, _)] ⟨rfl, rfl, rfl, rfl, rfl, trivial⟩ (bg (aR (aU (aq (j := 1) (an rfl rfl) (by decide)) rfl (ogm rfl rfl (aT (bn (aS (aR (aU (bW rfl rfl) rfl (aT (aS (bF rfl (by decide) (a8 (aS (a5 (aS (aR (ogm rfl rfl (aU (ez (cs := iv .u64 8 (wN (KB Hl))) aC aY ai rfl rfl (by decide) (bO (by decide))) rfl (oga rfl rfl (oga rfl rfl (aT (aR (ogm rfl rfl (ogm rfl rfl (aU (aw 0 aF rfl fR (by decide) rfl rfl) rfl (aU (aZ gQ rfl hb1 rfl) rfl (aU (aq (j := 0) (cw rfl rfl) (by decide)) rfl (aU (dt 0 rfl rfl rfl (by decide)) rfl ?_))))))))))))))))))))))))))))))
 refine aU (aw 14 aD rfl dI (by decide) rfl rfl) rfl (aU (ap (14 + 1) aC aY rfl rfl (by omega) (by omega)) rfl (a6 (cD aY rfl rfl rfl hb5 rfl) ?_))
 rintro _ w6 ⟨hb6, k6, z6⟩
 replace hb1 := hb1.keep k6 (nm ne_b1_b3)
 replace hb2 := hb2.keep k6 (nm ne_b2_b3)
 replace hB := hB.new k6 (nw ge_b3)
 clear z6
 replace hb6 : Bk w6 b3 _ [.int .i64 64, .int .i64 80, .int .i64 1, .int .i64 8, .int .i64 7, .int .i64 19, .int .i64 61, .int .i64 6, .int .i64 28, .int .i64 34, .int .i64 39, .int .i64 14, .int .i64 18, .int .i64 41, .int .u64 ((((KB Hl).getD 0 0) >>> 0).toNat : Int), .int .u64 ((((KB Hl).getD 1 0) >>> 0).toNat : Int), .int .u64 0, .int .u64 0, .int .u64 0, .int .u64 0, .int .u64 0, .int .u64 0] := hb6
 refine aT (aW [(1, _), (2, _), (3, _), (8, _), (9, _)] ⟨rfl, rfl, rfl, rfl, rfl, trivial⟩ (bg (aR (aU (aq (j := 2) (an rfl rfl) (by decide)) rfl (ogm rfl rfl (aT (bn (aS (aR (aU (bW rfl rfl) rfl (aT (aS (bF rfl (by decide) (a8 (aS (a5 (aS (aR (ogm rfl rfl (aU (ez (cs := iv .u64 8 (wN (KB Hl))) aC aY ai rfl rfl (by decide) (bO (by decide))) rfl (oga rfl rfl (oga rfl rfl (aT (aR (ogm rfl rfl (ogm rfl rfl (aU (aw 0 aF rfl fR (by decide) rfl rfl) rfl (aU (aZ gQ rfl hb1 rfl) rfl (aU (aq (j := 0) (cw rfl rfl) (by decide)) rfl (aU (dt 0 rfl rfl rfl (by decide)) rfl ?_))))))))))))))))))))))))))))))
 refine aU (aw 14 aD rfl dI (by decide) rfl rfl) rfl (aU (ap (14 + 2) aC aY rfl rfl (by omega) (by omega)) rfl (a6 (cD aY rfl rfl rfl hb6 rfl) ?_))
 rintro _ w7 ⟨hb7, k7, z7⟩
 replace hb1 := hb1.keep k7 (nm ne_b1_b3)
 replace hb2 := hb2.keep k7 (nm ne_b2_b3)
 replace hB := hB.new k7 (nw ge_b3)
 clear z7
 replace hb7 : Bk w7 b3 _ [.int .i64 64, .int .i64 80, .int .i64 1, .int .i64 8, .int .i64 7, .int .i64 19, .int .i64 61, .int .i64 6, .int .i64 28, .int .i64 34, .int .i64 39, .int .i64 14, .int .i64 18, .int .i64 41, .int .u64 ((((KB Hl).getD 0 0) >>> 0).toNat : Int), .int .u64 ((((KB Hl).getD 1 0) >>> 0).toNat : Int), .int .u64 ((((KB Hl).getD 2 0) >>> 0).toNat : Int), .int .u64 0, .int .u64 0, .int .u64 0, .int .u64 0, .int .u64 0] := hb7
 refine aT (aW [(1, _), (2, _), (3, _), (8, _), (9, _)] ⟨rfl, rfl, rfl, rfl, rfl, trivial⟩ (bg (aR (aU (aq (j := 3) (an rfl rfl) (by decide)) rfl (ogm rfl rfl (aT (bn (aS (aR (aU (bW rfl rfl) rfl (aT (aS (bF rfl (by decide) (a8 (aS (a5 (aS (aR (ogm rfl rfl (aU (ez (cs := iv .u64 8 (wN (KB Hl))) aC aY ai rfl rfl (by decide) (bO (by decide))) rfl (oga rfl rfl (oga rfl rfl (aT (aR (ogm rfl rfl (ogm rfl rfl (aU (aw 0 aF rfl fR (by decide) rfl rfl) rfl (aU (aZ gQ rfl hb1 rfl) rfl (aU (aq (j := 0) (cw rfl rfl) (by decide)) rfl (aU (dt 0 rfl rfl rfl (by decide)) rfl ?_))))))))))))))))))))))))))))))
 refine aU (aw 14 aD rfl dI (by decide) rfl rfl) rfl (aU (ap (14 + 3) aC aY rfl rfl (by omega) (by omega)) rfl (a6 (cD aY rfl rfl rfl hb7 rfl) ?_))
 rintro _ w8 ⟨hb8, k8, z8⟩
 replace hb1 := hb1.keep k8 (nm ne_b1_b3)
 replace hb2 := hb2.keep k8 (nm ne_b2_b3)
 replace hB := hB.new k8 (nw ge_b3)
 clear z8
 replace hb8 : Bk w8 b3 _ [.int .i64 64, .int .i64 80, .int .i64 1, .int .i64 8, .int .i64 7, .int .i64 19, .int .i64 61, .int .i64 6, .int .i64 28, .int .i64 34, .int .i64 39, .int .i64 14, .int .i64 18, .int .i64 41, .int .u64 ((((KB Hl).getD 0 0) >>> 0).toNat : Int), .int .u64 ((((KB Hl).getD 1 0) >>> 0).toNat : Int), .int .u64 ((((KB Hl).getD 2 0) >>> 0).toNat : Int), .int .u64 ((((KB Hl).getD 3 0) >>> 0).toNat : Int), .int .u64 0, .int .u64 0, .int .u64 0, .int .u64 0] := hb8
 refine aT (aW [(1, _), (2, _), (3, _), (8, _), (9, _)] ⟨rfl, rfl, rfl, rfl, rfl, trivial⟩ (bg (aR (aU (aq (j := 4) (an rfl rfl) (by decide)) rfl (ogm rfl rfl (aT (bn (aS (aR (aU (bW rfl rfl) rfl (aT (aS (bF rfl (by decide) (a8 (aS (a5 (aS (aR (ogm rfl rfl (aU (ez (cs := iv .u64 8 (wN (KB Hl))) aC aY ai rfl rfl (by decide) (bO (by decide))) rfl (oga rfl rfl (oga rfl rfl (aT (aR (ogm rfl rfl (ogm rfl rfl (aU (aw 0 aF rfl fR (by decide) rfl rfl) rfl (aU (aZ gQ rfl hb1 rfl) rfl (aU (aq (j := 0) (cw rfl rfl) (by decide)) rfl (aU (dt 0 rfl rfl rfl (by decide)) rfl ?_))))))))))))))))))))))))))))))
 refine aU (aw 14 aD rfl dI (by decide) rfl rfl) rfl (aU (ap (14 + 4) aC aY rfl rfl (by omega) (by omega)) rfl (a6 (cD aY rfl rfl rfl hb8 rfl) ?_))
 rintro _ w9 ⟨hb9, k9, z9⟩
 replace hb1 := hb1.keep k9 (nm ne_b1_b3)
 replace hb2 := hb2.keep k9 (nm ne_b2_b3)
 replace hB := hB.new k9 (nw ge_b3)
 clear z9
 replace hb9 : Bk w9 b3 _ [.int .i64 64, .int .i64 80, .int .i64 1, .int .i64 8, .int .i64 7, .int .i64 19, .int .i64 61, .int .i64 6, .int .i64 28, .int .i64 34, .int .i64 39, .int .i64 14, .int .i64 18, .int .i64 41, .int .u64 ((((KB Hl).getD 0 0) >>> 0).toNat : Int), .int .u64 ((((KB Hl).getD 1 0) >>> 0).toNat : Int), .int .u64 ((((KB Hl).getD 2 0) >>> 0).toNat : Int), .int .u64 ((((KB Hl).getD 3 0) >>> 0).toNat : Int), .int .u64 ((((KB Hl).getD 4 0) >>> 0).toNat : Int), .int .u64 0, .int .u64 0, .int .u64 0] := hb9
 refine aT (aW [(1, _), (2, _), (3, _), (8, _), (9, _)] ⟨rfl, rfl, rfl, rfl, rfl, trivial⟩ (bg (aR (aU (aq (j := 5) (an rfl rfl) (by decide)) rfl (ogm rfl rfl (aT (bn (aS (aR (aU (bW rfl rfl) rfl (aT (aS (bF rfl (by decide) (a8 (aS (a5 (aS (aR (ogm rfl rfl (aU (ez (cs := iv .u64 8 (wN (KB Hl))) aC aY ai rfl rfl (by decide) (bO (by decide))) rfl (oga rfl rfl (oga rfl rfl (aT (aR (ogm rfl rfl (ogm rfl rfl (aU (aw 0 aF rfl fR (by decide) rfl rfl) rfl (aU (aZ gQ rfl hb1 rfl) rfl (aU (aq (j := 0) (cw rfl rfl) (by decide)) rfl (aU (dt 0 rfl rfl rfl (by decide)) rfl ?_))))))))))))))))))))))))))))))
 refine aU (aw 14 aD rfl dI (by decide) rfl rfl) rfl (aU (ap (14 + 5) aC aY rfl rfl (by omega) (by omega)) rfl (a6 (cD aY rfl rfl rfl hb9 rfl) ?_))
 rintro _ w10 ⟨hb10, k10, z10⟩
 replace hb1 := hb1.keep k10 (nm ne_b1_b3)
 replace hb2 := hb2.keep k10 (nm ne_b2_b3)
 replace hB := hB.new k10 (nw ge_b3)
 clear z10
 replace hb10 : Bk w10 b3 _ [.int .i64 64, .int .i64 80, .int .i64 1, .int .i64 8, .int .i64 7, .int .i64 19, .int .i64 61, .int .i64 6, .int .i64 28, .int .i64 34, .int .i64 39, .int .i64 14, .int .i64 18, .int .i64 41, .int .u64 ((((KB Hl).getD 0 0) >>> 0).toNat : Int), .int .u64 ((((KB Hl).getD 1 0) >>> 0).toNat : Int), .int .u64 ((((KB Hl).getD 2 0) >>> 0).toNat : Int), .int .u64 ((((KB Hl).getD 3 0) >>> 0).toNat : Int), .int .u64 ((((KB Hl).getD 4 0) >>> 0).toNat : Int), .int .u64 ((((KB Hl).getD 5 0) >>> 0).toNat : Int), .int .u64 0, .int .u64 0] := hb10
 refine aT (aW [(1, _), (2, _), (3, _), (8, _), (9, _)] ⟨rfl, rfl, rfl, rfl, rfl, trivial⟩ (bg (aR (aU (aq (j := 6) (an rfl rfl) (by decide)) rfl (ogm rfl rfl (aT (bn (aS (aR (aU (bW rfl rfl) rfl (aT (aS (bF rfl (by decide) (a8 (aS (a5 (aS (aR (ogm rfl rfl (aU (ez (cs := iv .u64 8 (wN (KB Hl))) aC aY ai rfl rfl (by decide) (bO (by decide))) rfl (oga rfl rfl (oga rfl rfl (aT (aR (ogm rfl rfl (ogm rfl rfl (aU (aw 0 aF rfl fR (by decide) rfl rfl) rfl (aU (aZ gQ rfl hb1 rfl) rfl (aU (aq (j := 0) (cw rfl rfl) (by decide)) rfl (aU (dt 0 rfl rfl rfl (by decide)) rfl ?_))))))))))))))))))))))))))))))
 refine aU (aw 14 aD rfl dI (by decide) rfl rfl) rfl (aU (ap (14 + 6) aC aY rfl rfl (by omega) (by omega)) rfl (a6 (cD aY rfl rfl rfl hb10 rfl) ?_))
 rintro _ w11 ⟨hb11, k11, z11⟩
 replace hb1 := hb1.keep k11 (nm ne_b1_b3)
 replace hb2 := hb2.keep k11 (nm ne_b2_b3)
 replace hB := hB.new k11 (nw ge_b3)
 clear z11
 replace hb11 : Bk w11 b3 _ [.int .i64 64, .int .i64 80, .int .i64 1, .int .i64 8, .int .i64 7, .int .i64 19, .int .i64 61, .int .i64 6, .int .i64 28, .int .i64 34, .int .i64 39, .int .i64 14, .int .i64 18, .int .i64 41, .int .u64 ((((KB Hl).getD 0 0) >>> 0).toNat : Int), .int .u64 ((((KB Hl).getD 1 0) >>> 0).toNat : Int), .int .u64 ((((KB Hl).getD 2 0) >>> 0).toNat : Int), .int .u64 ((((KB Hl).getD 3 0) >>> 0).toNat : Int), .int .u64 ((((KB Hl).getD 4 0) >>> 0).toNat : Int), .int .u64 ((((KB Hl).getD 5 0) >>> 0).toNat : Int), .int .u64 ((((KB Hl).getD 6 0) >>> 0).toNat : Int), .int .u64 0] := hb11
 refine aT (aW [(1, _), (2, _), (3, _), (8, _), (9, _)] ⟨rfl, rfl, rfl, rfl, rfl, trivial⟩ (bg (aR (aU (aq (j := 7) (an rfl rfl) (by decide)) rfl (ogm rfl rfl (aT (bn (aS (aR (aU (bW rfl rfl) rfl (aT (aS (bF rfl (by decide) (a8 (aS (a5 (aS (aR (ogm rfl rfl (aU (ez (cs := iv .u64 8 (wN (KB Hl))) aC aY ai rfl rfl (by decide) (bO (by decide))) rfl (oga rfl rfl (oga rfl rfl (aT (aR (ogm rfl rfl (ogm rfl rfl (aU (aw 0 aF rfl fR (by decide) rfl rfl) rfl (aU (aZ gQ rfl hb1 rfl) rfl (aU (aq (j := 0) (cw rfl rfl) (by decide)) rfl (aU (dt 0 rfl rfl rfl (by decide)) rfl ?_))))))))))))))))))))))))))))))
 refine aU (aw 14 aD rfl dI (by decide) rfl rfl) rfl (aU (ap (14 + 7) aC aY rfl rfl (by omega) (by omega)) rfl (a6 (cD aY rfl rfl rfl hb11 rfl) ?_))
 rintro _ w12 ⟨hb12, k12, z12⟩
 replace hb2 := hb2.keep k12 (nm ne_b2_b3)
 replace hB := hB.new k12 (nw ge_b3)
 clear z12
 replace hb12 : Bk w12 b3 _ [.int .i64 64, .int .i64 80, .int .i64 1, .int .i64 8, .int .i64 7, .int .i64 19, .int .i64 61, .int .i64 6, .int .i64 28, .int .i64 34, .int .i64 39, .int .i64 14, .int .i64 18, .int .i64 41, .int .u64 ((((KB Hl).getD 0 0) >>> 0).toNat : Int), .int .u64 ((((KB Hl).getD 1 0) >>> 0).toNat : Int), .int .u64 ((((KB Hl).getD 2 0) >>> 0).toNat : Int), .int .u64 ((((KB Hl).getD 3 0) >>> 0).toNat : Int), .int .u64 ((((KB Hl).getD 4 0) >>> 0).toNat : Int), .int .u64 ((((KB Hl).getD 5 0) >>> 0).toNat : Int), .int .u64 ((((KB Hl).getD 6 0) >>> 0).toNat : Int), .int .u64 ((((KB Hl).getD 7 0) >>> 0).toNat : Int)] := hb12
 refine aT (aW [(1, _), (2, _), (3, _), (8, _), (9, _)] ⟨rfl, rfl, rfl, rfl, rfl, trivial⟩ (bg (aR (aU (aq (j := 8) (an rfl rfl) (by decide)) rfl (ogm rfl rfl (aT (bn (aS (aR (aU (bW rfl rfl) rfl (aT (aS (cU rfl (by decide) (bE rfl (aS (aR (aU (aX (cs' := [_, _, _, _, _, _, _, _, _, _, _, _, _, _, _, _, _, _, _, _, _, _]) ag94 jA rfl hb12 rfl rfl) rfl (a6 (ak jA rfl rfl rfl (by simp only [List.forall_mem_cons]; refine ⟨rfl, rfl, rfl, rfl, rfl, rfl, rfl, rfl, rfl, rfl, rfl, rfl, rfl, rfl, rfl, rfl, rfl, rfl, rfl, rfl, rfl, rfl, fun v hv => by cases hv⟩) hb2 rfl) ?_))))))))))))))))))
 rintro _ w13 ⟨hb13, k13, z13⟩
 replace hB := hB.new k13 (nw ge_b2)
 clear z13
 replace hb13 : Bk w13 b2 _ [.int .i64 64, .int .i64 80, .int .i64 1, .int .i64 8, .int .i64 7, .int .i64 19, .int .i64 61, .int .i64 6, .int .i64 28, .int .i64 34, .int .i64 39, .int .i64 14, .int .i64 18, .int .i64 41, .int .u64 ((((KB Hl).getD 0 0) >>> 0).toNat : Int), .int .u64 ((((KB Hl).getD 1 0) >>> 0).toNat : Int), .int .u64 ((((KB Hl).getD 2 0) >>> 0).toNat : Int), .int .u64 ((((KB Hl).getD 3 0) >>> 0).toNat : Int), .int .u64 ((((KB Hl).getD 4 0) >>> 0).toNat : Int), .int .u64 ((((KB Hl).getD 5 0) >>> 0).toNat : Int), .int .u64 ((((KB Hl).getD 6 0) >>> 0).toNat : Int), .int .u64 ((((KB Hl).getD 7 0) >>> 0).toNat : Int)] := hb13
 refine aT (bP hfin Tryd.results62 rfl (ae ag94 jA hb13 rfl)  ?_)
 refine ⟨?_, hB⟩
 rw [← fj Hl 0, ← fj Hl 1, ← fj Hl 2, ← fj Hl 3, ← fj Hl 4, ← fj Hl 5, ← fj Hl 6, ← fj Hl 7]
theorem my (p : Nat) (v : Value) (bs : List UInt8) (s : S8 64) (w : World) (hT : Tabs w) (hv : RdB w v bs) (hl : bs.length = 128) (hp : 1 < p) (hnv : ∀ x, x ∈ vblk v → x ∉ [p]) (hbz : Bk w p 94 [.int .i64 64, .int .i64 80, .int .i64 1, .int .i64 8, .int .i64 7, .int .i64 19, .int .i64 61, .int .i64 6, .int .i64 28, .int .i64 34, .int .i64 39, .int .i64 14, .int .i64 18, .int .i64 41, .int .u64 ((s.a).toNat : Int), .int .u64 ((s.b).toNat : Int), .int .u64 ((s.c).toNat : Int), .int .u64 ((s.d).toNat : Int), .int .u64 ((s.e).toNat : Int), .int .u64 ((s.f).toNat : Int), .int .u64 ((s.g).toNat : Int), .int .u64 ((s.h).toNat : Int)]) : Rets Tryd.prog 63 [.pointer (some ⟨p, 0, none⟩), v] w (fun r w' => r = .tuple #[] ∧ Bk w' p 94 [.int .i64 64, .int .i64 80, .int .i64 1, .int .i64 8, .int .i64 7, .int .i64 19, .int .i64 61, .int .i64 6, .int .i64 28, .int .i64 34, .int .i64 39, .int .i64 14, .int .i64 18, .int .i64 41, .int .u64 (((blk dW Kl bs s).a).toNat : Int), .int .u64 (((blk dW Kl bs s).b).toNat : Int), .int .u64 (((blk dW Kl bs s).c).toNat : Int), .int .u64 (((blk dW Kl bs s).d).toNat : Int), .int .u64 (((blk dW Kl bs s).e).toNat : Int), .int .u64 (((blk dW Kl bs s).f).toNat : Int), .int .u64 (((blk dW Kl bs s).g).toNat : Int), .int .u64 (((blk dW Kl bs s).h).toNat : Int)] ∧ Keep [p] w w') := by
  have hB : Keep [p] w w := Keep.refl _ _
  have hcap := hv.vcap
  have hpS : ∀ x, x ∈ [p] → 1 < x := fun x hx => by rw [List.mem_singleton] at hx; omega
  refine a7 Tryd.func63 rfl (by decide) Tryd.ntmps63 rfl (fun fin _ hfin => aS (aR (a9 (ab ty108) rfl ?_)))
  rintro _ w1 ⟨b1, rfl, eb1, hb1, k1, z1⟩
  have ge_b1 : w.heap.size ≤ b1 := by have := hB.size; omega
  have ne_p_b1 : p ≠ b1 := by have := hbz.lt; omega
  replace hbz := hbz.pK k1
  replace hB := hB.trans k1.weak
  clear eb1 z1
  replace hb1 : Bk w1 b1 108 (iv .u64 80 (fun _ => 0)) := by rw [iv, cG]; exact hb1
  refine aT (aS (aR (ogm rfl rfl (aU (bu rfl) rfl (aU (aw 0 aD rfl eO (by decide) rfl rfl) rfl (aU (aw 0 aF rfl fR (by decide) rfl rfl) rfl (aU (aZ gQ rfl hbz rfl) rfl (aU (aq (j := 8) (eg rfl rfl (by decide)) (by decide)) rfl ?_))))))))
  refine oga rfl rfl (aT (aS (aS (aR (ogm rfl rfl (aT (a5 ?_)))))))
  rw [← wN_nil (n := 64)] at hb1
  refine bi (Γ := Nat) (fun i => [(0, .pointer (some ⟨p, 0, none⟩)), (1, v), (4, .pointer (some ⟨b1, 0, none⟩)), (5, .int .i64 8), (23, .int .i64 (i : Int))]) (fun i W => i ≤ 16 ∧ Bk W b1 108 (iv .u64 80 (wN ((List.range i).map (wrd 64 bs)))) ∧ Bk W p 94 [.int .i64 64, .int .i64 80, .int .i64 1, .int .i64 8, .int .i64 7, .int .i64 19, .int .i64 61, .int .i64 6, .int .i64 28, .int .i64 34, .int .i64 39, .int .i64 14, .int .i64 18, .int .i64 41, .int .u64 ((s.a).toNat : Int), .int .u64 ((s.b).toNat : Int), .int .u64 ((s.c).toNat : Int), .int .u64 ((s.d).toNat : Int), .int .u64 ((s.e).toNat : Int), .int .u64 ((s.f).toNat : Int), .int .u64 ((s.g).toNat : Int), .int .u64 ((s.h).toNat : Int)] ∧ Keep [p] w W) (fun i => 16 - i) 0 ⟨rfl, rfl, rfl, rfl, rfl, trivial⟩ (⟨by omega, hb1, hbz, hB⟩) ?_
  rintro i w2 ⟨hi0, hbw, hbz, hB⟩
  refine aW [(0, .pointer (some ⟨p, 0, none⟩)), (1, v), (4, .pointer (some ⟨b1, 0, none⟩)), (5, .int .i64 8), (23, .int .i64 (i : Int))] ⟨rfl, rfl, rfl, rfl, rfl, trivial⟩ (aS (aR (aU (bW rfl rfl) rfl (aT (aS (bo rfl (fun hc1 => ?_) (fun hc1 => ?_)))))))
  · -- yes
    refine a8 (aS (a5 (aS (aR (ogm rfl rfl (oga rfl rfl (aT (aS ?_))))))))
    refine aR (ogm rfl rfl (ogm rfl rfl (ogm rfl rfl (aU (gN rfl rfl (by omega)) rfl (ogm rfl rfl (ogm rfl rfl (aU (gN rfl rfl (by omega)) rfl (ogm rfl rfl ?_))))))))
    refine aU (cI rfl rfl (by omega)) rfl ?_
    have hcu : RdB _ (cut v (8 * i) (8 * i + 8) 1) ((bs.drop (8 * i)).take (8 * i + 8 - 8 * i)) := (hv.keep hB hnv).cutB (by omega) (by omega)
    rw [show 8 * i + 8 - 8 * i = 8 from by omega] at hcu
    have hcl : ((bs.drop (8 * i)).take 8).length = 8 := by rw [List.length_take, List.length_drop]; omega
    refine aU (cM (v' := cut v (8 * i) (8 * i + 8) 1) (i0 aB cZ rfl (hv.keep hB hnv) (.inr ⟨_, _, rfl, rfl⟩) (.inr ⟨_, _, rfl, rfl⟩) (by omega)) (by rw [show ((8 : Int) * (i : Int)).toNat = 8 * i from by omega, show ((8 : Int) * (i : Int) + 8).toNat = 8 * i + 8 from by omega])) rfl (aU (cM (v' := .int .i64 8) (bp aB rfl hcu) (by rw [hcl]; rfl)) rfl (ogm rfl rfl (aT (aW [(0, _), (1, _), (4, _), (5, _), (23, _), (6, _), (35, _), (36, _), (37, _)] ⟨rfl, rfl, rfl, rfl, rfl, rfl, rfl, rfl, rfl, trivial⟩ (a5 ?_)))))
    have hw0 := lQ ((List.range i).map (wrd 64 bs))
    rw [← hw0] at hbw
    have hwl : ((List.range i).map (wrd 64 bs)).length = i := by simp
    refine bi (Γ := Nat) (fun k => [(0, .pointer (some ⟨p, 0, none⟩)), (1, v), (4, .pointer (some ⟨b1, 0, none⟩)), (5, .int .i64 8), (6, .int .i64 (i : Int)), (23, .int .i64 (i : Int)), (35, (cut v (8 * i) (8 * i + 8) 1)), (36, .int .i64 8), (37, .int .i64 (k : Int))]) (fun k W => k ≤ 8 ∧ Bk W b1 108 (iv .u64 80 (wN (((List.range i).map (wrd 64 bs)) ++ [wrdF 0 (((bs.drop (8 * i)).take 8).take k)]))) ∧ Bk W p 94 [.int .i64 64, .int .i64 80, .int .i64 1, .int .i64 8, .int .i64 7, .int .i64 19, .int .i64 61, .int .i64 6, .int .i64 28, .int .i64 34, .int .i64 39, .int .i64 14, .int .i64 18, .int .i64 41, .int .u64 ((s.a).toNat : Int), .int .u64 ((s.b).toNat : Int), .int .u64 ((s.c).toNat : Int), .int .u64 ((s.d).toNat : Int), .int .u64 ((s.e).toNat : Int), .int .u64 ((s.f).toNat : Int), .int .u64 ((s.g).toNat : Int), .int .u64 ((s.h).toNat : Int)] ∧ Keep [p] w W) (fun k => 8 - k) 0 ⟨rfl, rfl, rfl, rfl, rfl, rfl, rfl, rfl, rfl, trivial⟩ (⟨by omega, hbw, hbz, hB⟩) ?_
    rintro k w3 ⟨hk0, hbw, hbz, hB⟩
    refine aW [(0, .pointer (some ⟨p, 0, none⟩)), (1, v), (4, .pointer (some ⟨b1, 0, none⟩)), (5, .int .i64 8), (6, .int .i64 (i : Int)), (23, .int .i64 (i : Int)), (35, (cut v (8 * i) (8 * i + 8) 1)), (36, .int .i64 8), (37, .int .i64 (k : Int))] ⟨rfl, rfl, rfl, rfl, rfl, rfl, rfl, rfl, rfl, trivial⟩ (aS (aR (aU (bW rfl rfl) rfl (aT (aS (bo rfl (fun hc2 => ?_) (fun hc2 => ?_)))))))
    · -- yes
      refine a8 (aS (a5 (aS (aR ?_))))
      have hcu : RdB _ (cut v (8 * i) (8 * i + 8) 1) ((bs.drop (8 * i)).take (8 * i + 8 - 8 * i)) := (hv.keep hB hnv).cutB (by omega) (by omega)
      rw [show 8 * i + 8 - 8 * i = 8 from by omega] at hcu
      refine aU (dV aB cZ rfl (by first | assumption | exact Own.rd (by assumption) | exact Rd.pK (by assumption) hB | exact Own.rd (Own.pK (by assumption) hB)) rfl (by omega)) rfl ?_
      obtain ⟨c, hc⟩ : ∃ c, ((bs.drop (8 * i)).take 8)[k]? = some c := ⟨_, List.getElem?_eq_getElem (by omega)⟩
      have hgc : gb ((bs.drop (8 * i)).take 8) (k : Int) = (c.toNat : Int) := by unfold gb; rw [List.getD_eq_getElem?_getD, Int.toNat_natCast, hc]; rfl
      refine aU (cM (v' := .int .u8 (c.toNat : Int)) (d7 j4 rfl hcu (by omega)) (by rw [hgc])) rfl (oga rfl rfl (aT (aR (ogm rfl rfl (ogm rfl rfl (aU (ap i aM aY rfl rfl (by omega) (by omega)) rfl (aU (cM (v' := .int .u64 ((wrdF 0 (((bs.drop (8 * i)).take 8).take k)).toNat : Int)) (aZ ai rfl hbw (bO (by omega))) (by rw [lR _ _ hwl])) rfl (aU (oN 8 rfl rfl rfl (by decide)) rfl ?_))))))))
      refine ogm rfl rfl (aU (gb_cv c (by rw [aK]; rfl) aJ rfl rfl) rfl (aU (gb_or rfl rfl) rfl (aU (ap i aM aY rfl rfl (by omega) (by omega)) rfl (a6 (eV (v := ((((wrdF 0 (((bs.drop (8 * i)).take 8).take k)) <<< 8) ||| (BitVec.ofNat 64 c.toNat)).toNat : Int)) aY rfl rfl hbw (by omega)) ?_))))
      rintro _ w4 ⟨hb2, k2, z2⟩
      replace hbz := hbz.keep k2 (nm ne_p_b1)
      replace hB := hB.new k2 (nw ge_b1)
      clear z2
      refine aT (aW [(0, _), (1, _), (4, _), (5, _), (6, _), (23, _), (35, _), (36, _), (37, _)] ⟨rfl, rfl, rfl, rfl, rfl, rfl, rfl, rfl, rfl, trivial⟩ (bg (aR (aU (cI rfl rfl (by omega)) rfl (ogm rfl rfl (aT (cA (Γ := Nat) (k + 1) ⟨rfl, rfl, rfl, rfl, rfl, rfl, rfl, rfl, rfl, trivial⟩ (by (try dsimp only); omega) (⟨by omega, by rw [mE hc, ← gH _ (wrdF 0 (((bs.drop (8 * i)).take 8).take k)) _ hwl]; exact hb2, hbz, hB⟩))))))))
    · -- no
      refine bE rfl (bg (aR (aU (cI rfl rfl (by omega)) rfl (ogm rfl rfl (aT ?_)))))
      obtain rfl : k = 8 := by omega
      rw [List.take_of_length_le (show ((bs.drop (8 * i)).take 8).length ≤ 8 from by omega)] at hbw
      refine cA (Γ := Nat) (i + 1) ⟨rfl, rfl, rfl, rfl, rfl, trivial⟩ (by (try dsimp only); omega) (⟨by omega, by rw [mD]; exact hbw, hbz, hB⟩)
  · -- no
    refine bE rfl (aS (aS (aR (oga rfl rfl (aT (a5 ?_))))))
    obtain rfl : i = 16 := by omega
    refine bi (Γ := Nat) (fun t => [(0, .pointer (some ⟨p, 0, none⟩)), (4, .pointer (some ⟨b1, 0, none⟩)), (9, .int .i64 (t : Int))]) (fun t W => 16 ≤ t ∧ t ≤ 80 ∧ Bk W b1 108 (iv .u64 80 (wN (sch dW bs (t - 16)))) ∧ Bk W p 94 [.int .i64 64, .int .i64 80, .int .i64 1, .int .i64 8, .int .i64 7, .int .i64 19, .int .i64 61, .int .i64 6, .int .i64 28, .int .i64 34, .int .i64 39, .int .i64 14, .int .i64 18, .int .i64 41, .int .u64 ((s.a).toNat : Int), .int .u64 ((s.b).toNat : Int), .int .u64 ((s.c).toNat : Int), .int .u64 ((s.d).toNat : Int), .int .u64 ((s.e).toNat : Int), .int .u64 ((s.f).toNat : Int), .int .u64 ((s.g).toNat : Int), .int .u64 ((s.h).toNat : Int)] ∧ Keep [p] w W) (fun t => 80 - t) 16 ⟨rfl, rfl, rfl, trivial⟩ (⟨by omega, by omega, hbw, hbz, hB⟩) ?_
    rintro t w5 ⟨ht0, ht1, hbw, hbz, hB⟩
    refine aW [(0, .pointer (some ⟨p, 0, none⟩)), (4, .pointer (some ⟨b1, 0, none⟩)), (9, .int .i64 (t : Int))] ⟨rfl, rfl, rfl, trivial⟩ (aS (aS (aR (ogm rfl rfl (ogm rfl rfl (aU (bu rfl) rfl (aU (aw 0 aD rfl eO (by decide) rfl rfl) rfl (aU (aw 1 aF rfl fR (by decide) rfl rfl) rfl ?_))))))))
    refine aU (aZ gQ rfl hbz rfl) rfl (aU (bW rfl rfl) rfl (aT (bo rfl (fun hc3 => ?_) (fun hc3 => ?_))))
    · -- yes
      refine a8 (aS (a5 (bz 34 [0, 1, 2, 3, 4, 5, 6, 7, 8, 9, 10, 12, 13, 14, 15, 17, 18, 19, 20, 21, 22, 23, 24, 25, 26, 29, 30, 31, 32, 11, 16, 27, 28, 33] [11, 27] [] mixed [(9, _), (0, _), (4, _)] ⟨rfl, rfl, rfl, trivial⟩ (by decide +kernel) rfl (fun w6 k3 => ?_))))
      obtain ⟨hbw, hbz⟩ := ik k3 hbw hbz
      replace hB := hB.trans k3.weak
      refine cQ 9 rfl rfl rfl rfl rfl (cQ 0 rfl rfl rfl rfl rfl (cQ 9 rfl rfl rfl rfl rfl (ao 63 rfl rfl rfl rfl (fun W' kk => eG rfl rfl (by omega)) (ct 4 64 rfl rfl rfl rfl rfl (fun W' kk => ap (t - 2) aM aY rfl rfl (by omega) (by omega)) (ao 65 rfl rfl rfl rfl (fun W' kk => aZ ai rfl (Bk.pK hbw kk) (bO (by omega))) (cQ 0 rfl rfl rfl rfl rfl (ao 67 rfl rfl rfl rfl (fun W' kk => bu rfl) (ao 68 rfl rfl rfl rfl (fun W' kk => aw 0 aD rfl eO (by decide) rfl rfl) ?_))))))))
      refine ao 69 rfl rfl rfl rfl (fun W' kk => aw 5 aF rfl gP (by decide) rfl rfl) (ao 70 rfl rfl rfl rfl (fun W' kk => aX (cs' := [_, _, _]) ag80 gP rfl (Bk.pK hbz kk) rfl rfl) (cQ 9 rfl rfl rfl rfl rfl (ao 73 rfl rfl rfl rfl (fun W' kk => eG rfl rfl (by omega)) (ct 4 74 rfl rfl rfl rfl rfl (fun W' kk => ap (t - 7) aM aY rfl rfl (by omega) (by omega)) (ao 75 rfl rfl rfl rfl (fun W' kk => aZ ai rfl (Bk.pK hbw kk) (bO (by omega))) (cQ 0 rfl rfl rfl rfl rfl (cQ 9 rfl rfl rfl rfl rfl (ao 79 rfl rfl rfl rfl (fun W' kk => eG rfl rfl (by omega)) ?_))))))))
      refine ct 4 80 rfl rfl rfl rfl rfl (fun W' kk => ap (t - 15) aM aY rfl rfl (by omega) (by omega)) (ao 81 rfl rfl rfl rfl (fun W' kk => aZ ai rfl (Bk.pK hbw kk) (bO (by omega))) (cQ 0 rfl rfl rfl rfl rfl (ao 83 rfl rfl rfl rfl (fun W' kk => bu rfl) (ao 84 rfl rfl rfl rfl (fun W' kk => aw 0 aD rfl eO (by decide) rfl rfl) (ao 85 rfl rfl rfl rfl (fun W' kk => aw 2 aF rfl gP (by decide) rfl rfl) (ao 86 rfl rfl rfl rfl (fun W' kk => aX (cs' := [_, _, _]) ag80 gP rfl (Bk.pK hbz kk) rfl rfl) (cQ 9 rfl rfl rfl rfl rfl (ao 90 rfl rfl rfl rfl (fun W' kk => eG rfl rfl (by omega)) ?_))))))))
      refine ct 4 91 rfl rfl rfl rfl rfl (fun W' kk => ap (t - 16) aM aY rfl rfl (by omega) (by omega)) (ao 92 rfl rfl rfl rfl (fun W' kk => aZ ai rfl (Bk.pK hbw kk) (bO (by omega))) (bx [(62, _), (66, _), (71, _)] rfl rfl ⟨rfl, rfl, rfl, trivial⟩ rfl (aV (vs := [_, _, _]) rfl (lg p _ _ _ _ _ _ _ _ _ _ _ _ _ _ _ _ _ _ _ _ _ ((sch dW bs (t - 16)).getD (t - 2) 0) 19 61 6 (by decide) (by decide) (by decide) _ hbz)) ?_))
      rintro _ w7 ⟨rfl, k4⟩
      refine ⟨k4, ?_⟩
      obtain ⟨hbw, hbz⟩ := ik k4 hbw hbz
      replace hB := hB.trans k4.weak
      refine ct 72 76 rfl rfl rfl rfl rfl (fun W' kk => cl rfl rfl) (bx [(78, _), (82, _), (87, _)] rfl rfl ⟨rfl, rfl, rfl, trivial⟩ rfl (aV (vs := [_, _, _]) rfl (lg p _ _ _ _ _ _ _ _ _ _ _ _ _ _ _ _ _ _ _ _ _ ((sch dW bs (t - 16)).getD (t - 15) 0) 1 8 7 (by decide) (by decide) (by decide) _ hbz)) ?_)
      rintro _ w8 ⟨rfl, k5⟩
      refine ⟨k5, ?_⟩
      obtain ⟨hbw, hbz⟩ := ik k5 hbw hbz
      replace hB := hB.trans k5.weak
      refine ct 77 88 rfl rfl rfl rfl rfl (fun W' kk => cl rfl rfl) (ct 89 93 rfl rfl rfl rfl rfl (fun W' kk => cl rfl rfl) (cS (aU (ap t aM aY rfl rfl (by omega) (by omega)) rfl (a6 (eV (v := (((((lo (19, 61, 6) ((sch dW bs (t - 16)).getD (t - 2) 0)) + ((sch dW bs (t - 16)).getD (t - 7) 0)) + (lo (1, 8, 7) ((sch dW bs (t - 16)).getD (t - 15) 0))) + ((sch dW bs (t - 16)).getD (t - 16) 0)).toNat : Int)) aY rfl rfl hbw (by omega)) ?_))))
      rintro _ w9 ⟨hb3, k6, z3⟩
      replace hbz := hbz.keep k6 (nm ne_p_b1)
      replace hB := hB.new k6 (nw ge_b1)
      clear z3
      refine aT (aW [(9, _), (0, _), (4, _)] ⟨rfl, rfl, rfl, trivial⟩ (bg (aR (ogm rfl rfl (aU (cI rfl rfl (by omega)) rfl (oga rfl rfl (aT (cA (Γ := Nat) (t + 1) ⟨rfl, rfl, rfl, trivial⟩ (by (try dsimp only); omega) (⟨by omega, by omega, by rw [show t + 1 - 16 = (t - 16) + 1 from by omega, sch, ← kX _ _ (by rw [eR]; omega : (sch dW bs (t - 16)).length = t), show 16 + (t - 16) = t from by omega]; exact hb3, hbz, hB⟩)))))))))
    · -- no
      refine bE rfl (aS (aR (ogm rfl rfl (aU (bu rfl) rfl (aU (aw 14 aD rfl dI (by decide) rfl rfl) rfl (aU (aX (cs' := [_, _, _, _, _, _, _, _]) ag92 dI rfl hbz rfl rfl) rfl (a9 (ab dI) rfl ?_)))))))
      rintro _ w10 ⟨b2, rfl, eb2, hb4, k7, z4⟩
      have ge_b2 : w.heap.size ≤ b2 := by have := hB.size; omega
      have ne_b1_b2 : b1 ≠ b2 := by have := hbw.lt; omega
      have ne_p_b2 : p ≠ b2 := by have := hbz.lt; omega
      obtain ⟨hbw, hbz⟩ := ik k7 hbw hbz
      replace hB := hB.trans k7.weak
      clear eb2 z4
      refine a6 (ak dI rfl rfl rfl (by simp only [List.forall_mem_cons]; refine ⟨rfl, rfl, rfl, rfl, rfl, rfl, rfl, rfl, fun v hv => by cases hv⟩) hb4 rfl) ?_
      rintro _ w11 ⟨hb5, k8, z5⟩
      replace hbw := hbw.keep k8 (nm ne_b1_b2)
      replace hbz := hbz.keep k8 (nm ne_p_b2)
      replace hB := hB.new k8 (nw ge_b2)
      clear z5
      replace hb5 : Bk w11 b2 _ [.int .u64 ((s.a).toNat : Int), .int .u64 ((s.b).toNat : Int), .int .u64 ((s.c).toNat : Int), .int .u64 ((s.d).toNat : Int), .int .u64 ((s.e).toNat : Int), .int .u64 ((s.f).toNat : Int), .int .u64 ((s.g).toNat : Int), .int .u64 ((s.h).toNat : Int)] := hb5
      refine aT (aW [(0, _), (4, _), (10, _)] ⟨rfl, rfl, rfl, trivial⟩ (aS (aS (aR (ogm rfl rfl (aU (bu rfl) rfl (aU (aw 0 aD rfl eO (by decide) rfl rfl) rfl (aU (aw 1 aF rfl fR (by decide) rfl rfl) rfl ?_))))))))
      refine aU (aZ gQ rfl hbz rfl) rfl (ogm rfl rfl (aT (a5 ?_)))
      obtain rfl : t = 80 := by omega
      refine bi (Γ := Nat × S8 64) (fun ⟨i, X⟩ => [(0, .pointer (some ⟨p, 0, none⟩)), (4, .pointer (some ⟨b1, 0, none⟩)), (10, .pointer (some ⟨b2, 0, none⟩)), (104, .int .i64 80), (105, .int .i64 (i : Int))]) (fun ⟨i, X⟩ W => i ≤ 80 ∧ X = rnds dW Kl (sch dW bs 64) s i ∧ Bk W b1 108 (iv .u64 80 (wN (sch dW bs 64))) ∧ Bk W p 94 [.int .i64 64, .int .i64 80, .int .i64 1, .int .i64 8, .int .i64 7, .int .i64 19, .int .i64 61, .int .i64 6, .int .i64 28, .int .i64 34, .int .i64 39, .int .i64 14, .int .i64 18, .int .i64 41, .int .u64 ((s.a).toNat : Int), .int .u64 ((s.b).toNat : Int), .int .u64 ((s.c).toNat : Int), .int .u64 ((s.d).toNat : Int), .int .u64 ((s.e).toNat : Int), .int .u64 ((s.f).toNat : Int), .int .u64 ((s.g).toNat : Int), .int .u64 ((s.h).toNat : Int)] ∧ Bk W b2 92 [.int .u64 ((X.a).toNat : Int), .int .u64 ((X.b).toNat : Int), .int .u64 ((X.c).toNat : Int), .int .u64 ((X.d).toNat : Int), .int .u64 ((X.e).toNat : Int), .int .u64 ((X.f).toNat : Int), .int .u64 ((X.g).toNat : Int), .int .u64 ((X.h).toNat : Int)] ∧ Keep [p] w W) (fun ⟨i, X⟩ => 80 - i) ⟨0, s⟩ ⟨rfl, rfl, rfl, rfl, rfl, trivial⟩ (⟨by omega, rfl, hbw, hbz, hb5, hB⟩) ?_
      rintro ⟨i, X⟩ w12 ⟨hi0, hX, hbw, hbz, hbx, hB⟩
      refine aW [(0, .pointer (some ⟨p, 0, none⟩)), (4, .pointer (some ⟨b1, 0, none⟩)), (10, .pointer (some ⟨b2, 0, none⟩)), (104, .int .i64 80), (105, .int .i64 (i : Int))] ⟨rfl, rfl, rfl, rfl, rfl, trivial⟩ (aS (aR (aU (bW rfl rfl) rfl (aT (aS (bo rfl (fun hc4 => ?_) (fun hc4 => ?_)))))))
      · -- yes
        refine a8 (aS (a5 (aS (aR (ogm rfl rfl (oga rfl rfl (aT (aS ?_))))))))
        refine dm mixed (by decide +kernel) (fun w13 k9 => ?_)
        obtain ⟨hbw, hbz, hbx⟩ := kp3 k9 hbw hbz hbx
        replace hB := hB.trans k9.weak
        refine ac (ap 4 aC aY rfl rfl (by omega) (by omega)) rfl (ac (aZ ai rfl hbx rfl) rfl (ac (ap 0 aC aY rfl rfl (by omega) (by omega)) rfl (ac (aZ ai rfl hbx rfl) rfl (ac (fK rfl) rfl (ac (fK rfl) rfl (cB (aT (aS ?_))))))))
        refine bz 37 [0, 1, 2, 3, 4, 5, 6, 7, 8, 11, 12, 13, 14, 15, 16, 17, 18, 19, 20, 22, 23, 24, 25, 26, 27, 28, 29, 30, 31, 33, 34, 35, 9, 10, 21, 32, 36] [9] [] mixed [(10, _), (0, _), (12, _), (11, _), (4, _), (104, _), (105, _), (13, _)] ⟨rfl, rfl, rfl, rfl, rfl, rfl, rfl, rfl, trivial⟩ (by decide +kernel) rfl (fun w14 k10 => ?_)
        obtain ⟨hbw, hbz, hbx⟩ := kp3 k10 hbw hbz hbx
        replace hB := hB.trans k10.weak
        refine ao 10 rfl rfl rfl rfl (fun W' kk => ap 7 aC aY rfl rfl (by omega) (by omega)) (ao 112 rfl rfl rfl rfl (fun W' kk => aZ ai rfl (Bk.pK hbx kk) rfl) (cQ 0 rfl rfl rfl rfl rfl (cQ 12 rfl rfl rfl rfl rfl (cQ 0 rfl rfl rfl rfl rfl (ao 116 rfl rfl rfl rfl (fun W' kk => bu rfl) (ao 117 rfl rfl rfl rfl (fun W' kk => aw 0 aD rfl eO (by decide) rfl rfl) (ao 118 rfl rfl rfl rfl (fun W' kk => aw 11 aF rfl gP (by decide) rfl rfl) (ao 119 rfl rfl rfl rfl (fun W' kk => aX (cs' := [_, _, _]) ag80 gP rfl (Bk.pK hbz kk) rfl rfl) ?_))))))))
        refine cQ 12 rfl rfl rfl rfl rfl (ao 10 rfl rfl rfl rfl (fun W' kk => ap 5 aC aY rfl rfl (by omega) (by omega)) (ao 124 rfl rfl rfl rfl (fun W' kk => aZ ai rfl (Bk.pK hbx kk) rfl) (ct 123 125 rfl rfl rfl rfl rfl (fun W' kk => iA rfl rfl) (cQ 12 rfl rfl rfl rfl rfl (ao 127 rfl rfl rfl rfl (fun W' kk => gb_com rfl) (ao 10 rfl rfl rfl rfl (fun W' kk => ap 6 aC aY rfl rfl (by omega) (by omega)) (ao 129 rfl rfl rfl rfl (fun W' kk => aZ ai rfl (Bk.pK hbx kk) rfl) (ct 128 130 rfl rfl rfl rfl rfl (fun W' kk => iA rfl rfl) ?_))))))))
        refine ct 126 131 rfl rfl rfl rfl rfl (fun W' kk => fJ rfl rfl) (cQ 11 rfl rfl rfl rfl rfl (ao 134 rfl rfl rfl rfl (fun W' kk => ap i aM aY rfl rfl (by omega) (by omega)) (ao 135 rfl rfl rfl rfl (fun W' kk => g_ld ai rfl ((hT.keep (hB.trans kk.weak) hpS).cube (by omega))) (cQ 0 rfl rfl rfl rfl rfl (ao 137 rfl rfl rfl rfl (fun W' kk => bu rfl) (ao 138 rfl rfl rfl rfl (fun W' kk => aw 0 aD rfl eO (by decide) rfl rfl) (ao 139 rfl rfl rfl rfl (fun W' kk => aw 0 aF rfl fR (by decide) rfl rfl) (ao 140 rfl rfl rfl rfl (fun W' kk => aZ gQ rfl (Bk.pK hbz kk) rfl) ?_))))))))
        refine ao 141 rfl rfl rfl rfl (fun W' kk => aq (j := 0) (cw rfl rfl) (by decide)) (ct 136 142 rfl rfl rfl rfl rfl (fun W' kk => dt 0 rfl rfl rfl (by decide)) (cQ 11 rfl rfl rfl rfl rfl (ct 4 145 rfl rfl rfl rfl rfl (fun W' kk => ap i aM aY rfl rfl (by omega) (by omega)) (ao 146 rfl rfl rfl rfl (fun W' kk => aZ ai rfl (Bk.pK hbw kk) (bO (by omega))) (bx [(114, _), (115, _), (120, _)] rfl rfl ⟨rfl, rfl, rfl, trivial⟩ rfl (aV (vs := [_, _, _]) rfl (kK p _ _ _ _ _ _ _ _ _ _ _ _ _ _ _ _ _ _ _ _ _ X.e 14 18 41 (by decide) (by decide) (by decide) _ hbz)) ?_)))))
        rintro _ w15 ⟨rfl, k11⟩
        refine ⟨k11, ?_⟩
        obtain ⟨hbw, hbz, hbx⟩ := kp3 k11 hbw hbz hbx
        replace hB := hB.trans k11.weak
        refine ct 113 121 rfl rfl rfl rfl rfl (fun W' kk => cl rfl rfl) (ct 122 132 rfl rfl rfl rfl rfl (fun W' kk => cl rfl rfl) (ct 133 143 rfl rfl rfl rfl rfl (fun W' kk => cl rfl rfl) (ct 144 147 rfl rfl rfl rfl rfl (fun W' kk => cl rfl rfl) (cS (oga rfl rfl (aT (aW [(10, _), (0, _), (4, _), (104, _), (105, _), (13, _), (14, _)] ⟨rfl, rfl, rfl, rfl, rfl, rfl, rfl, trivial⟩ (aS ?_))))))))
        refine bz 24 [0, 1, 2, 3, 4, 5, 6, 8, 9, 10, 11, 12, 13, 14, 15, 16, 17, 18, 19, 20, 21, 22, 7, 23] [7] [] mixed [(0, _), (13, _), (10, _), (4, _), (104, _), (105, _), (14, _)] ⟨rfl, rfl, rfl, rfl, rfl, rfl, rfl, trivial⟩ (by decide +kernel) rfl (fun w16 k12 => ?_)
        obtain ⟨hbw, hbz, hbx⟩ := kp3 k12 hbw hbz hbx
        replace hB := hB.trans k12.weak
        refine cQ 0 rfl rfl rfl rfl rfl (cQ 13 rfl rfl rfl rfl rfl (cQ 0 rfl rfl rfl rfl rfl (ao 151 rfl rfl rfl rfl (fun W' kk => bu rfl) (ao 152 rfl rfl rfl rfl (fun W' kk => aw 0 aD rfl eO (by decide) rfl rfl) (ao 153 rfl rfl rfl rfl (fun W' kk => aw 8 aF rfl gP (by decide) rfl rfl) (ao 154 rfl rfl rfl rfl (fun W' kk => aX (cs' := [_, _, _]) ag80 gP rfl (Bk.pK hbz kk) rfl rfl) (cQ 13 rfl rfl rfl rfl rfl (ao 10 rfl rfl rfl rfl (fun W' kk => ap 1 aC aY rfl rfl (by omega) (by omega)) ?_))))))))
        refine ao 158 rfl rfl rfl rfl (fun W' kk => aZ ai rfl (Bk.pK hbx kk) rfl) (ct 157 159 rfl rfl rfl rfl rfl (fun W' kk => iA rfl rfl) (cQ 13 rfl rfl rfl rfl rfl (ao 10 rfl rfl rfl rfl (fun W' kk => ap 2 aC aY rfl rfl (by omega) (by omega)) (ao 162 rfl rfl rfl rfl (fun W' kk => aZ ai rfl (Bk.pK hbx kk) rfl) (ct 161 163 rfl rfl rfl rfl rfl (fun W' kk => iA rfl rfl) (ct 160 164 rfl rfl rfl rfl rfl (fun W' kk => fJ rfl rfl) (ao 10 rfl rfl rfl rfl (fun W' kk => ap 1 aC aY rfl rfl (by omega) (by omega)) (ao 166 rfl rfl rfl rfl (fun W' kk => aZ ai rfl (Bk.pK hbx kk) rfl) ?_))))))))
        refine ao 10 rfl rfl rfl rfl (fun W' kk => ap 2 aC aY rfl rfl (by omega) (by omega)) (ao 168 rfl rfl rfl rfl (fun W' kk => aZ ai rfl (Bk.pK hbx kk) rfl) (ct 167 169 rfl rfl rfl rfl rfl (fun W' kk => iA rfl rfl) (ct 165 170 rfl rfl rfl rfl rfl (fun W' kk => fJ rfl rfl) (bx [(149, _), (150, _), (155, _)] rfl rfl ⟨rfl, rfl, rfl, trivial⟩ rfl (aV (vs := [_, _, _]) rfl (kK p _ _ _ _ _ _ _ _ _ _ _ _ _ _ _ _ _ _ _ _ _ X.a 28 34 39 (by decide) (by decide) (by decide) _ hbz)) ?_))))
        rintro _ w17 ⟨rfl, k13⟩
        refine ⟨k13, ?_⟩
        obtain ⟨hbw, hbz, hbx⟩ := kp3 k13 hbw hbz hbx
        replace hB := hB.trans k13.weak
        refine ct 156 171 rfl rfl rfl rfl rfl (fun W' kk => cl rfl rfl) (cS (oga rfl rfl (aT (aW [(0, _), (10, _), (4, _), (104, _), (105, _), (14, _), (15, _)] ⟨rfl, rfl, rfl, rfl, rfl, rfl, rfl, trivial⟩ (aS (bf 2 mixed (by decide +kernel) (fun w18 k14 => ?_)))))))
        obtain ⟨hbw, hbz, hbx⟩ := kp3 k14 hbw hbz hbx
        replace hB := hB.trans k14.weak
        refine ac (g_sla (l := 1) (h := 8) aC aY rfl (.inr ⟨_, _, rfl, rfl⟩) (.inl ⟨rfl, rfl⟩) (by decide) (by decide)) rfl (ac (g_sla (l := 0) (h := 7) aC aY rfl (.inl ⟨rfl, rfl⟩) (.inr ⟨_, _, rfl, rfl⟩) (by decide) (by decide)) rfl (cB (a9 (d_cpr (k := 7) Tryd.underlying110 aY rfl rfl hbx (by simp only [List.forall_mem_cons]; exact ⟨rfl, rfl, rfl, rfl, rfl, rfl, rfl, rfl, fun v hv => by cases hv⟩) rfl (Nat.le_of_ble_eq_true rfl) (Nat.le_of_ble_eq_true rfl)) rfl ?_)))
        rintro _ w19 ⟨rfl, hb6, k15, z6⟩
        replace hbw := hbw.keep k15 (nm ne_b1_b2)
        replace hbz := hbz.keep k15 (nm ne_p_b2)
        replace hB := hB.new k15 (nw ge_b2)
        clear z6
        replace hb6 : Bk w19 b2 92 [.int .u64 ((X.a).toNat : Int), .int .u64 ((X.a).toNat : Int), .int .u64 ((X.b).toNat : Int), .int .u64 ((X.c).toNat : Int), .int .u64 ((X.d).toNat : Int), .int .u64 ((X.e).toNat : Int), .int .u64 ((X.f).toNat : Int), .int .u64 ((X.g).toNat : Int)] := hb6
        refine aT (aS (aR (aU (ap 4 aC aY rfl rfl (by omega) (by omega)) rfl (aU (aZ ai rfl hb6 rfl) rfl (ogm rfl rfl (aU (cl rfl rfl) rfl (aU (ap 4 aC aY rfl rfl (by omega) (by omega)) rfl (a6 (cD aY rfl rfl rfl hb6 rfl) ?_))))))))
        rintro _ w20 ⟨hb7, k16, z7⟩
        replace hbw := hbw.keep k16 (nm ne_b1_b2)
        replace hbz := hbz.keep k16 (nm ne_p_b2)
        replace hB := hB.new k16 (nw ge_b2)
        clear z7
        replace hb7 : Bk w20 b2 _ [.int .u64 ((X.a).toNat : Int), .int .u64 ((X.a).toNat : Int), .int .u64 ((X.b).toNat : Int), .int .u64 ((X.c).toNat : Int), .int .u64 ((X.d + ((((X.h + (hi (14, 18, 41) X.e)) + ((X.e &&& X.f) ^^^ ((~~~X.e) &&& X.g))) + (((KB Kl).getD i 0) >>> 0)) + ((sch dW bs 64).getD i 0))).toNat : Int), .int .u64 ((X.e).toNat : Int), .int .u64 ((X.f).toNat : Int), .int .u64 ((X.g).toNat : Int)] := hb7
        refine aT (aR (ogm rfl rfl (ogm rfl rfl (aU (cl rfl rfl) rfl (aU (ap 0 aC aY rfl rfl (by omega) (by omega)) rfl (a6 (cD aY rfl rfl rfl hb7 rfl) ?_))))))
        rintro _ w21 ⟨hb8, k17, z8⟩
        replace hbw := hbw.keep k17 (nm ne_b1_b2)
        replace hbz := hbz.keep k17 (nm ne_p_b2)
        replace hB := hB.new k17 (nw ge_b2)
        clear z8
        replace hb8 : Bk w21 b2 _ [.int .u64 ((((((X.h + (hi (14, 18, 41) X.e)) + ((X.e &&& X.f) ^^^ ((~~~X.e) &&& X.g))) + (((KB Kl).getD i 0) >>> 0)) + ((sch dW bs 64).getD i 0)) + ((hi (28, 34, 39) X.a) + (((X.a &&& X.b) ^^^ (X.a &&& X.c)) ^^^ (X.b &&& X.c)))).toNat : Int), .int .u64 ((X.a).toNat : Int), .int .u64 ((X.b).toNat : Int), .int .u64 ((X.c).toNat : Int), .int .u64 ((X.d + ((((X.h + (hi (14, 18, 41) X.e)) + ((X.e &&& X.f) ^^^ ((~~~X.e) &&& X.g))) + (((KB Kl).getD i 0) >>> 0)) + ((sch dW bs 64).getD i 0))).toNat : Int), .int .u64 ((X.e).toNat : Int), .int .u64 ((X.f).toNat : Int), .int .u64 ((X.g).toNat : Int)] := hb8
        refine aT (aW [(0, _), (10, _), (4, _), (104, _), (105, _)] ⟨rfl, rfl, rfl, rfl, rfl, trivial⟩ (bg (aR (aU (cI rfl rfl (by omega)) rfl (ogm rfl rfl (aT (cA (Γ := Nat × S8 64) ⟨i + 1, rnd dW (cst 64 Kl i) ((sch dW bs 64).getD i 0) X⟩ ⟨rfl, rfl, rfl, rfl, rfl, trivial⟩ (by (try dsimp only); omega) (⟨by omega, by rw [hX]; rfl, hbw, hbz, by rw [← fj]; exact hb8, hB⟩))))))))
      · -- no
        refine bE rfl (aS (aR (ogm rfl rfl (aT (a5 (dQ 9 (aS (aR ?_))))))))
        refine aU (bW rfl rfl) rfl (aT (aS (bF rfl (by decide) (a8 (aS (a5 (aS (aR ?_))))))))
        refine ogm rfl rfl (oga rfl rfl (aT (bJ 12 [0, 1, 2, 3, 4, 5, 6, 7, 8, 9, 10, 11] [] [] [] mixed [(0, _), (16, _), (10, _), (186, _)] ⟨rfl, rfl, rfl, rfl, trivial⟩ (by decide +kernel) (by decide) (by decide) ?_ (fun x hx => by cases hx) rfl (fun w22 k18 => ?_))))
        · intro q hq; cases hq
        obtain ⟨hbz, hbx⟩ := ik k18 hbz hbx
        replace hB := hB.trans k18.weak
        refine cK 0 rfl rfl rfl rfl rfl (cK 16 rfl rfl rfl rfl rfl (af 189 rfl rfl rfl rfl (fun W' kk => bu rfl) (af 191 rfl rfl rfl rfl (fun W' kk => aw 14 aD rfl dI (by decide) rfl rfl) (dK 190 192 rfl rfl rfl rfl rfl (fun W' kk => ap (14 + 0) aC aY rfl rfl (by omega) (by omega)) (af 193 rfl rfl rfl rfl (fun W' kk => aZ ai rfl (Bk.pK hbz kk) rfl) (cK 16 rfl rfl rfl rfl rfl (dK 10 195 rfl rfl rfl rfl rfl (fun W' kk => ap 0 aC aY rfl rfl (by omega) (by omega)) (af 196 rfl rfl rfl rfl (fun W' kk => aZ ai rfl (Bk.pK hbx kk) rfl) ?_))))))))
        refine dK 194 197 rfl rfl rfl rfl rfl (fun W' kk => cl rfl rfl) (af 189 rfl rfl rfl rfl (fun W' kk => bu rfl) (af 199 rfl rfl rfl rfl (fun W' kk => aw 14 aD rfl dI (by decide) rfl rfl) (cC (fun w23 k19 => ?_))))
        obtain ⟨hbz, hbx⟩ := ik k19 hbz hbx
        replace hB := hB.trans k19.weak
        refine bK (aU (ap (14 + 0) aC aY rfl rfl (by omega) (by omega)) rfl (a6 (cD aY rfl rfl rfl hbz rfl) ?_))
        rintro _ w24 ⟨hb9, k20, z9⟩
        replace hbx := hbx.keep k20 (nm (Ne.symm ne_p_b2))
        replace hB := hB.trans k20
        clear z9
        replace hb9 : Bk w24 p _ [.int .i64 64, .int .i64 80, .int .i64 1, .int .i64 8, .int .i64 7, .int .i64 19, .int .i64 61, .int .i64 6, .int .i64 28, .int .i64 34, .int .i64 39, .int .i64 14, .int .i64 18, .int .i64 41, .int .u64 ((s.a + X.a).toNat : Int), .int .u64 ((s.b).toNat : Int), .int .u64 ((s.c).toNat : Int), .int .u64 ((s.d).toNat : Int), .int .u64 ((s.e).toNat : Int), .int .u64 ((s.f).toNat : Int), .int .u64 ((s.g).toNat : Int), .int .u64 ((s.h).toNat : Int)] := hb9
        refine aT (aW [(0, _), (10, _), (186, _)] ⟨rfl, rfl, rfl, trivial⟩ (bg (aR (aU (aq (j := 1) (an rfl rfl) (by decide)) rfl (ogm rfl rfl (aT (bn (aS ?_))))))))
        refine aR (aU (bW rfl rfl) rfl (aT (aS (bF rfl (by decide) (a8 (aS (a5 (aS ?_))))))))
        refine aR (ogm rfl rfl (oga rfl rfl (aT (bJ 12 [0, 1, 2, 3, 4, 5, 6, 7, 8, 9, 10, 11] [] [] [] mixed [(0, _), (16, _), (10, _), (186, _)] ⟨rfl, rfl, rfl, rfl, trivial⟩ (by decide +kernel) (by decide) (by decide) ?_ (fun x hx => by cases hx) rfl (fun w25 k21 => ?_)))))
        · intro q hq; cases hq
        obtain ⟨hbx, hb9⟩ := ik k21 hbx hb9
        replace hB := hB.trans k21.weak
        refine cK 0 rfl rfl rfl rfl rfl (cK 16 rfl rfl rfl rfl rfl (af 189 rfl rfl rfl rfl (fun W' kk => bu rfl) (af 191 rfl rfl rfl rfl (fun W' kk => aw 14 aD rfl dI (by decide) rfl rfl) (dK 190 192 rfl rfl rfl rfl rfl (fun W' kk => ap (14 + 1) aC aY rfl rfl (by omega) (by omega)) (af 193 rfl rfl rfl rfl (fun W' kk => aZ ai rfl (Bk.pK hb9 kk) rfl) (cK 16 rfl rfl rfl rfl rfl (dK 10 195 rfl rfl rfl rfl rfl (fun W' kk => ap 1 aC aY rfl rfl (by omega) (by omega)) (af 196 rfl rfl rfl rfl (fun W' kk => aZ ai rfl (Bk.pK hbx kk) rfl) ?_))))))))
        refine dK 194 197 rfl rfl rfl rfl rfl (fun W' kk => cl rfl rfl) (af 189 rfl rfl rfl rfl (fun W' kk => bu rfl) (af 199 rfl rfl rfl rfl (fun W' kk => aw 14 aD rfl dI (by decide) rfl rfl) (cC (fun w26 k22 => ?_))))
        obtain ⟨hbx, hb9⟩ := ik k22 hbx hb9
        replace hB := hB.trans k22.weak
        refine bK (aU (ap (14 + 1) aC aY rfl rfl (by omega) (by omega)) rfl (a6 (cD aY rfl rfl rfl hb9 rfl) ?_))
        rintro _ w27 ⟨hb10, k23, z10⟩
        replace hbx := hbx.keep k23 (nm (Ne.symm ne_p_b2))
        replace hB := hB.trans k23
        clear z10
        replace hb10 : Bk w27 p _ [.int .i64 64, .int .i64 80, .int .i64 1, .int .i64 8, .int .i64 7, .int .i64 19, .int .i64 61, .int .i64 6, .int .i64 28, .int .i64 34, .int .i64 39, .int .i64 14, .int .i64 18, .int .i64 41, .int .u64 ((s.a + X.a).toNat : Int), .int .u64 ((s.b + X.b).toNat : Int), .int .u64 ((s.c).toNat : Int), .int .u64 ((s.d).toNat : Int), .int .u64 ((s.e).toNat : Int), .int .u64 ((s.f).toNat : Int), .int .u64 ((s.g).toNat : Int), .int .u64 ((s.h).toNat : Int)] := hb10
        refine aT (aW [(0, _), (10, _), (186, _)] ⟨rfl, rfl, rfl, trivial⟩ (bg (aR (aU (aq (j := 2) (an rfl rfl) (by decide)) rfl (ogm rfl rfl (aT (bn (aS ?_))))))))
        refine aR (aU (bW rfl rfl) rfl (aT (aS (bF rfl (by decide) (a8 (aS (a5 (aS ?_))))))))
        refine aR (ogm rfl rfl (oga rfl rfl (aT (bJ 12 [0, 1, 2, 3, 4, 5, 6, 7, 8, 9, 10, 11] [] [] [] mixed [(0, _), (16, _), (10, _), (186, _)] ⟨rfl, rfl, rfl, rfl, trivial⟩ (by decide +kernel) (by decide) (by decide) ?_ (fun x hx => by cases hx) rfl (fun w28 k24 => ?_)))))
        · intro q hq; cases hq
        obtain ⟨hbx, hb10⟩ := ik k24 hbx hb10
        replace hB := hB.trans k24.weak
        refine cK 0 rfl rfl rfl rfl rfl (cK 16 rfl rfl rfl rfl rfl (af 189 rfl rfl rfl rfl (fun W' kk => bu rfl) (af 191 rfl rfl rfl rfl (fun W' kk => aw 14 aD rfl dI (by decide) rfl rfl) (dK 190 192 rfl rfl rfl rfl rfl (fun W' kk => ap (14 + 2) aC aY rfl rfl (by omega) (by omega)) (af 193 rfl rfl rfl rfl (fun W' kk => aZ ai rfl (Bk.pK hb10 kk) rfl) (cK 16 rfl rfl rfl rfl rfl (dK 10 195 rfl rfl rfl rfl rfl (fun W' kk => ap 2 aC aY rfl rfl (by omega) (by omega)) (af 196 rfl rfl rfl rfl (fun W' kk => aZ ai rfl (Bk.pK hbx kk) rfl) ?_))))))))
        refine dK 194 197 rfl rfl rfl rfl rfl (fun W' kk => cl rfl rfl) (af 189 rfl rfl rfl rfl (fun W' kk => bu rfl) (af 199 rfl rfl rfl rfl (fun W' kk => aw 14 aD rfl dI (by decide) rfl rfl) (cC (fun w29 k25 => ?_))))
        obtain ⟨hbx, hb10⟩ := ik k25 hbx hb10
        replace hB := hB.trans k25.weak
        refine bK (aU (ap (14 + 2) aC aY rfl rfl (by omega) (by omega)) rfl (a6 (cD aY rfl rfl rfl hb10 rfl) ?_))
        rintro _ w30 ⟨hb11, k26, z11⟩
        replace hbx := hbx.keep k26 (nm (Ne.symm ne_p_b2))
        replace hB := hB.trans k26
        clear z11
        replace hb11 : Bk w30 p _ [.int .i64 64, .int .i64 80, .int .i64 1, .int .i64 8, .int .i64 7, .int .i64 19, .int .i64 61, .int .i64 6, .int .i64 28, .int .i64 34, .int .i64 39, .int .i64 14, .int .i64 18, .int .i64 41, .int .u64 ((s.a + X.a).toNat : Int), .int .u64 ((s.b + X.b).toNat : Int), .int .u64 ((s.c + X.c).toNat : Int), .int .u64 ((s.d).toNat : Int), .int .u64 ((s.e).toNat : Int), .int .u64 ((s.f).toNat : Int), .int .u64 ((s.g).toNat : Int), .int .u64 ((s.h).toNat : Int)] := hb11
        refine aT (aW [(0, _), (10, _), (186, _)] ⟨rfl, rfl, rfl, trivial⟩ (bg (aR (aU (aq (j := 3) (an rfl rfl) (by decide)) rfl (ogm rfl rfl (aT (bn (aS ?_))))))))
        refine aR (aU (bW rfl rfl) rfl (aT (aS (bF rfl (by decide) (a8 (aS (a5 (aS ?_))))))))
        refine aR (ogm rfl rfl (oga rfl rfl (aT (bJ 12 [0, 1, 2, 3, 4, 5, 6, 7, 8, 9, 10, 11] [] [] [] mixed [(0, _), (16, _), (10, _), (186, _)] ⟨rfl, rfl, rfl, rfl, trivial⟩ (by decide +kernel) (by decide) (by decide) ?_ (fun x hx => by cases hx) rfl (fun w31 k27 => ?_)))))
        · intro q hq; cases hq
        obtain ⟨hbx, hb11⟩ := ik k27 hbx hb11
        replace hB := hB.trans k27.weak
        refine cK 0 rfl rfl rfl rfl rfl (cK 16 rfl rfl rfl rfl rfl (af 189 rfl rfl rfl rfl (fun W' kk => bu rfl) (af 191 rfl rfl rfl rfl (fun W' kk => aw 14 aD rfl dI (by decide) rfl rfl) (dK 190 192 rfl rfl rfl rfl rfl (fun W' kk => ap (14 + 3) aC aY rfl rfl (by omega) (by omega)) (af 193 rfl rfl rfl rfl (fun W' kk => aZ ai rfl (Bk.pK hb11 kk) rfl) (cK 16 rfl rfl rfl rfl rfl (dK 10 195 rfl rfl rfl rfl rfl (fun W' kk => ap 3 aC aY rfl rfl (by omega) (by omega)) (af 196 rfl rfl rfl rfl (fun W' kk => aZ ai rfl (Bk.pK hbx kk) rfl) ?_))))))))
        refine dK 194 197 rfl rfl rfl rfl rfl (fun W' kk => cl rfl rfl) (af 189 rfl rfl rfl rfl (fun W' kk => bu rfl) (af 199 rfl rfl rfl rfl (fun W' kk => aw 14 aD rfl dI (by decide) rfl rfl) (cC (fun w32 k28 => ?_))))
        obtain ⟨hbx, hb11⟩ := ik k28 hbx hb11
        replace hB := hB.trans k28.weak
        refine bK (aU (ap (14 + 3) aC aY rfl rfl (by omega) (by omega)) rfl (a6 (cD aY rfl rfl rfl hb11 rfl) ?_))
        rintro _ w33 ⟨hb12, k29, z12⟩
        replace hbx := hbx.keep k29 (nm (Ne.symm ne_p_b2))
        replace hB := hB.trans k29
        clear z12
        replace hb12 : Bk w33 p _ [.int .i64 64, .int .i64 80, .int .i64 1, .int .i64 8, .int .i64 7, .int .i64 19, .int .i64 61, .int .i64 6, .int .i64 28, .int .i64 34, .int .i64 39, .int .i64 14, .int .i64 18, .int .i64 41, .int .u64 ((s.a + X.a).toNat : Int), .int .u64 ((s.b + X.b).toNat : Int), .int .u64 ((s.c + X.c).toNat : Int), .int .u64 ((s.d + X.d).toNat : Int), .int .u64 ((s.e).toNat : Int), .int .u64 ((s.f).toNat : Int), .int .u64 ((s.g).toNat : Int), .int .u64 ((s.h).toNat : Int)] := hb12
        refine aT (aW [(0, _), (10, _), (186, _)] ⟨rfl, rfl, rfl, trivial⟩ (bg (aR (aU (aq (j := 4) (an rfl rfl) (by decide)) rfl (ogm rfl rfl (aT (bn (aS ?_))))))))
        refine aR (aU (bW rfl rfl) rfl (aT (aS (bF rfl (by decide) (a8 (aS (a5 (aS ?_))))))))
        refine aR (ogm rfl rfl (oga rfl rfl (aT (bJ 12 [0, 1, 2, 3, 4, 5, 6, 7, 8, 9, 10, 11] [] [] [] mixed [(0, _), (16, _), (10, _), (186, _)] ⟨rfl, rfl, rfl, rfl, trivial⟩ (by decide +kernel) (by decide) (by decide) ?_ (fun x hx => by cases hx) rfl (fun w34 k30 => ?_)))))
        · intro q hq; cases hq
        obtain ⟨hbx, hb12⟩ := ik k30 hbx hb12
        replace hB := hB.trans k30.weak
        refine cK 0 rfl rfl rfl rfl rfl (cK 16 rfl rfl rfl rfl rfl (af 189 rfl rfl rfl rfl (fun W' kk => bu rfl) (af 191 rfl rfl rfl rfl (fun W' kk => aw 14 aD rfl dI (by decide) rfl rfl) (dK 190 192 rfl rfl rfl rfl rfl (fun W' kk => ap (14 + 4) aC aY rfl rfl (by omega) (by omega)) (af 193 rfl rfl rfl rfl (fun W' kk => aZ ai rfl (Bk.pK hb12 kk) rfl) (cK 16 rfl rfl rfl rfl rfl (dK 10 195 rfl rfl rfl rfl rfl (fun W' kk => ap 4 aC aY rfl rfl (by omega) (by omega)) (af 196 rfl rfl rfl rfl (fun W' kk => aZ ai rfl (Bk.pK hbx kk) rfl) ?_))))))))
        refine dK 194 197 rfl rfl rfl rfl rfl (fun W' kk => cl rfl rfl) (af 189 rfl rfl rfl rfl (fun W' kk => bu rfl) (af 199 rfl rfl rfl rfl (fun W' kk => aw 14 aD rfl dI (by decide) rfl rfl) (cC (fun w35 k31 => ?_))))
        obtain ⟨hbx, hb12⟩ := ik k31 hbx hb12
        replace hB := hB.trans k31.weak
        refine bK (aU (ap (14 + 4) aC aY rfl rfl (by omega) (by omega)) rfl (a6 (cD aY rfl rfl rfl hb12 rfl) ?_))
        rintro _ w36 ⟨hb13, k32, z13⟩
        replace hbx := hbx.keep k32 (nm (Ne.symm ne_p_b2))
        replace hB := hB.trans k32
        clear z13
        replace hb13 : Bk w36 p _ [.int .i64 64, .int .i64 80, .int .i64 1, .int .i64 8, .int .i64 7, .int .i64 19, .int .i64 61, .int .i64 6, .int .i64 28, .int .i64 34, .int .i64 39, .int .i64 14, .int .i64 18, .int .i64 41, .int .u64 ((s.a + X.a).toNat : Int), .int .u64 ((s.b + X.b).toNat : Int), .int .u64 ((s.c + X.c).toNat : Int), .int .u64 ((s.d + X.d).toNat : Int), .int .u64 ((s.e + X.e).toNat : Int), .int .u64 ((s.f).toNat : Int), .int .u64 ((s.g).toNat : Int), .int .u64 ((s.h).toNat : Int)] := hb13
        refine aT (aW [(0, _), (10, _), (186, _)] ⟨rfl, rfl, rfl, trivial⟩ (bg (aR (aU (aq (j := 5) (an rfl rfl) (by decide)) rfl (ogm rfl rfl (aT (bn (aS ?_))))))))
        refine aR (aU (bW rfl rfl) rfl (aT (aS (bF rfl (by decide) (a8 (aS (a5 (aS ?_))))))))
        refine aR (ogm rfl rfl (oga rfl rfl (aT (bJ 12 [0, 1, 2, 3, 4, 5, 6, 7, 8, 9, 10, 11] [] [] [] mixed [(0, _), (16, _), (10, _), (186, _)] ⟨rfl, rfl, rfl, rfl, trivial⟩ (by decide +kernel) (by decide) (by decide) ?_ (fun x hx => by cases hx) rfl (fun w37 k33 => ?_)))))
        · intro q hq; cases hq
        obtain ⟨hbx, hb13⟩ := ik k33 hbx hb13
        replace hB := hB.trans k33.weak
        refine cK 0 rfl rfl rfl rfl rfl (cK 16 rfl rfl rfl rfl rfl (af 189 rfl rfl rfl rfl (fun W' kk => bu rfl) (af 191 rfl rfl rfl rfl (fun W' kk => aw 14 aD rfl dI (by decide) rfl rfl) (dK 190 192 rfl rfl rfl rfl rfl (fun W' kk => ap (14 + 5) aC aY rfl rfl (by omega) (by omega)) (af 193 rfl rfl rfl rfl (fun W' kk => aZ ai rfl (Bk.pK hb13 kk) rfl) (cK 16 rfl rfl rfl rfl rfl (dK 10 195 rfl rfl rfl rfl rfl (fun W' kk => ap 5 aC aY rfl rfl (by omega) (by omega)) (af 196 rfl rfl rfl rfl (fun W' kk => aZ ai rfl (Bk.pK hbx kk) rfl) ?_))))))))
        refine dK 194 197 rfl rfl rfl rfl rfl (fun W' kk => cl rfl rfl) (af 189 rfl rfl rfl rfl (fun W' kk => bu rfl) (af 199 rfl rfl rfl rfl (fun W' kk => aw 14 aD rfl dI (by decide) rfl rfl) (cC (fun w38 k34 => ?_))))
        obtain ⟨hbx, hb13⟩ := ik k34 hbx hb13
        replace hB := hB.trans k34.weak
        refine bK (aU (ap (14 + 5) aC aY rfl rfl (by omega) (by omega)) rfl (a6 (cD aY rfl rfl rfl hb13 rfl) ?_))
        rintro _ w39 ⟨hb14, k35, z14⟩
        replace hbx := hbx.keep k35 (nm (Ne.symm ne_p_b2))
        replace hB := hB.trans k35
        clear z14
        replace hb14 : Bk w39 p _ [.int .i64 64, .int .i64 80, .int .i64 1, .int .i64 8, .int .i64 7, .int .i64 19, .int .i64 61, .int .i64 6, .int .i64 28, .int .i64 34, .int .i64 39, .int .i64 14, .int .i64 18, .int .i64 41, .int .u64 ((s.a + X.a).toNat : Int), .int .u64 ((s.b + X.b).toNat : Int), .int .u64 ((s.c + X.c).toNat : Int), .int .u64 ((s.d + X.d).toNat : Int), .int .u64 ((s.e + X.e).toNat : Int), .int .u64 ((s.f + X.f).toNat : Int), .int .u64 ((s.g).toNat : Int), .int .u64 ((s.h).toNat : Int)] := hb14
        refine aT (aW [(0, _), (10, _), (186, _)] ⟨rfl, rfl, rfl, trivial⟩ (bg (aR (aU (aq (j := 6) (an rfl rfl) (by decide)) rfl (ogm rfl rfl (aT (bn (aS ?_))))))))
        refine aR (aU (bW rfl rfl) rfl (aT (aS (bF rfl (by decide) (a8 (aS (a5 (aS ?_))))))))
        refine aR (ogm rfl rfl (oga rfl rfl (aT (bJ 12 [0, 1, 2, 3, 4, 5, 6, 7, 8, 9, 10, 11] [] [] [] mixed [(0, _), (16, _), (10, _), (186, _)] ⟨rfl, rfl, rfl, rfl, trivial⟩ (by decide +kernel) (by decide) (by decide) ?_ (fun x hx => by cases hx) rfl (fun w40 k36 => ?_)))))
        · intro q hq; cases hq
        obtain ⟨hbx, hb14⟩ := ik k36 hbx hb14
        replace hB := hB.trans k36.weak
        refine cK 0 rfl rfl rfl rfl rfl (cK 16 rfl rfl rfl rfl rfl (af 189 rfl rfl rfl rfl (fun W' kk => bu rfl) (af 191 rfl rfl rfl rfl (fun W' kk => aw 14 aD rfl dI (by decide) rfl rfl) (dK 190 192 rfl rfl rfl rfl rfl (fun W' kk => ap (14 + 6) aC aY rfl rfl (by omega) (by omega)) (af 193 rfl rfl rfl rfl (fun W' kk => aZ ai rfl (Bk.pK hb14 kk) rfl) (cK 16 rfl rfl rfl rfl rfl (dK 10 195 rfl rfl rfl rfl rfl (fun W' kk => ap 6 aC aY rfl rfl (by omega) (by omega)) (af 196 rfl rfl rfl rfl (fun W' kk => aZ ai rfl (Bk.pK hbx kk) rfl) ?_))))))))
        refine dK 194 197 rfl rfl rfl rfl rfl (fun W' kk => cl rfl rfl) (af 189 rfl rfl rfl rfl (fun W' kk => bu rfl) (af 199 rfl rfl rfl rfl (fun W' kk => aw 14 aD rfl dI (by decide) rfl rfl) (cC (fun w41 k37 => ?_))))
        obtain ⟨hbx, hb14⟩ := ik k37 hbx hb14
        replace hB := hB.trans k37.weak
        refine bK (aU (ap (14 + 6) aC aY rfl rfl (by omega) (by omega)) rfl (a6 (cD aY rfl rfl rfl hb14 rfl) ?_))
        rintro _ w42 ⟨hb15, k38, z15⟩
        replace hbx := hbx.keep k38 (nm (Ne.symm ne_p_b2))
        replace hB := hB.trans k38
        clear z15
        replace hb15 : Bk w42 p _ [.int .i64 64, .int .i64 80, .int .i64 1, .int .i64 8, .int .i64 7, .int .i64 19, .int .i64 61, .int .i64 6, .int .i64 28, .int .i64 34, .int .i64 39, .int .i64 14, .int .i64 18, .int .i64 41, .int .u64 ((s.a + X.a).toNat : Int), .int .u64 ((s.b + X.b).toNat : Int), .int .u64 ((s.c + X.c).toNat : Int), .int .u64 ((s.d + X.d).toNat : Int), .int .u64 ((s.e + X.e).toNat : Int), .int .u64 ((s.f + X.f).toNat : Int), .int .u64 ((s.g + X.g).toNat : Int), .int .u64 ((s.h).toNat : Int)] := hb15
        refine aT (aW [(0, _), (10, _), (186, _)] ⟨rfl, rfl, rfl, trivial⟩ (bg (aR (aU (aq (j := 7) (an rfl rfl) (by decide)) rfl (ogm rfl rfl (aT (bn (aS ?_))))))))
        refine aR (aU (bW rfl rfl) rfl (aT (aS (bF rfl (by decide) (a8 (aS (a5 (aS ?_))))))))
        refine aR (ogm rfl rfl (oga rfl rfl (aT (bJ 12 [0, 1, 2, 3, 4, 5, 6, 7, 8, 9, 10, 11] [] [] [] mixed [(0, _), (16, _), (10, _), (186, _)] ⟨rfl, rfl, rfl, rfl, trivial⟩ (by decide +kernel) (by decide) (by decide) ?_ (fun x hx => by cases hx) rfl (fun w43 k39 => ?_)))))
        · intro q hq; cases hq
        obtain ⟨hbx, hb15⟩ := ik k39 hbx hb15
        replace hB := hB.trans k39.weak
        refine cK 0 rfl rfl rfl rfl rfl (cK 16 rfl rfl rfl rfl rfl (af 189 rfl rfl rfl rfl (fun W' kk => bu rfl) (af 191 rfl rfl rfl rfl (fun W' kk => aw 14 aD rfl dI (by decide) rfl rfl) (dK 190 192 rfl rfl rfl rfl rfl (fun W' kk => ap (14 + 7) aC aY rfl rfl (by omega) (by omega)) (af 193 rfl rfl rfl rfl (fun W' kk => aZ ai rfl (Bk.pK hb15 kk) rfl) (cK 16 rfl rfl rfl rfl rfl (dK 10 195 rfl rfl rfl rfl rfl (fun W' kk => ap 7 aC aY rfl rfl (by omega) (by omega)) (af 196 rfl rfl rfl rfl (fun W' kk => aZ ai rfl (Bk.pK hbx kk) rfl) ?_))))))))
        refine dK 194 197 rfl rfl rfl rfl rfl (fun W' kk => cl rfl rfl) (af 189 rfl rfl rfl rfl (fun W' kk => bu rfl) (af 199 rfl rfl rfl rfl (fun W' kk => aw 14 aD rfl dI (by decide) rfl rfl) (cC (fun w44 k40 => ?_))))
        replace hb15 := hb15.pK k40
        replace hB := hB.trans k40.weak
        refine bK (aU (ap (14 + 7) aC aY rfl rfl (by omega) (by omega)) rfl (a6 (cD aY rfl rfl rfl hb15 rfl) ?_))
        rintro _ w45 ⟨hb16, k41, z16⟩
        replace hB := hB.trans k41
        clear z16
        replace hb16 : Bk w45 p _ [.int .i64 64, .int .i64 80, .int .i64 1, .int .i64 8, .int .i64 7, .int .i64 19, .int .i64 61, .int .i64 6, .int .i64 28, .int .i64 34, .int .i64 39, .int .i64 14, .int .i64 18, .int .i64 41, .int .u64 ((s.a + X.a).toNat : Int), .int .u64 ((s.b + X.b).toNat : Int), .int .u64 ((s.c + X.c).toNat : Int), .int .u64 ((s.d + X.d).toNat : Int), .int .u64 ((s.e + X.e).toNat : Int), .int .u64 ((s.f + X.f).toNat : Int), .int .u64 ((s.g + X.g).toNat : Int), .int .u64 ((s.h + X.h).toNat : Int)] := hb16
        refine aT (aW [(0, _), (10, _), (186, _)] ⟨rfl, rfl, rfl, trivial⟩ (bg (aR (aU (aq (j := 8) (an rfl rfl) (by decide)) rfl (ogm rfl rfl (aT (bn (aS ?_))))))))
        refine aR (aU (bW rfl rfl) rfl (aT (aS (cU rfl (by decide) (bE rfl (tw_end0 hfin Tryd.results63 ?_))))))
        obtain rfl : i = 80 := by omega
        subst hX
        exact ⟨rfl, hb16, hB⟩
theorem oY (X : S8 64) (i : Nat) : (((nF X).take i).flatMap fun x => be (x.toNat : Int) 8).length ≤ 64 := by
  have h : ∀ l : List (BitVec 64), (l.flatMap fun x => be (x.toNat : Int) 8).length = 8 * l.length := by
    intro l
    induction l with
    | nil => rfl
    | cons x r ih => rw [List.flatMap_cons, List.length_append, ih, dc, List.length_cons]; omega
  rw [h, List.length_take]; have : (nF X).length = 8 := rfl; omega
theorem j6 {v : Value} {l h s : Nat} {x : Nat} (hx : x ∈ vblk (cut v l h s)) : x ∈ vblk v := by
 cases v with
 | slice a n c =>
   cases a with
   | none => simp [cut, vblk] at hx
   | some a =>
     simp only [cut] at hx
     split at hx
     · exact hx
     · simp only [Option.map_some, vblk, List.mem_singleton] at hx ⊢
       rw [hx]; unfold Addr.add; split <;> rfl
 | _ => exact hx
theorem sum_any (v : Value) (xs : List UInt8) (w : World) (hT : Tabs w) (hv : RdB w v xs) (hx : xs.length ≤ 140737488354000) : Rets Tryd.prog 49 [.agg [.int .i64 64, .int .i64 80, .int .i64 1, .int .i64 8, .int .i64 7, .int .i64 19, .int .i64 61, .int .i64 6, .int .i64 28, .int .i64 34, .int .i64 39, .int .i64 14, .int .i64 18, .int .i64 41].toArray, v] w (fun r w' => OwnB w' w.heap.size r (Sha.sum dW Kl Hl xs) ∧ Keep [] w w') := by
 have hB : Keep [] w w := Keep.refl _ _
 have hz := iz (n := 64) (len := xs.length) (by decide) (by decide)
 refine a7 Tryd.func49 rfl (by decide) Tryd.ntmps49 rfl (fun fin _ hfin => aS (aR (a9 (bc (cs := [.int .i64 64, .int .i64 80, .int .i64 1, .int .i64 8, .int .i64 7, .int .i64 19, .int .i64 61, .int .i64 6, .int .i64 28, .int .i64 34, .int .i64 39, .int .i64 14, .int .i64 18, .int .i64 41]) rfl rfl) rfl ?_)))
 rintro _ w1 ⟨b1, rfl, eb1, hb1, k1, z1⟩
 replace hB := hB.trans k1
 clear eb1 z1
 refine oga rfl rfl (aT (aS (aR (aU (aX (cs' := [_, _, _, _, _, _, _, _, _, _, _, _, _, _]) ag82 eO rfl hb1 rfl rfl) rfl (a9 (aV (vs := [_]) rfl (jM _ (hT.pK hB))) rfl ?_)))))
 rintro _ w2 ⟨rfl, k2⟩
 obtain ⟨hB, hb1⟩ := bT k2 hB hb1
 refine a9 (ab jA) rfl ?_
 rintro _ w3 ⟨b2, rfl, eb2, hb2, k3, z2⟩
 have ge_b2 : w.heap.size ≤ b2 := by have := hB.size; omega
 have ne_b1_b2 : b1 ≠ b2 := by have := hb1.lt; omega
 obtain ⟨hB, hb1⟩ := bT k3 hB hb1
 clear eb2 z2
 refine a6 (ak jA rfl rfl rfl (by simp only [List.forall_mem_cons]; refine ⟨rfl, rfl, rfl, rfl, rfl, rfl, rfl, rfl, rfl, rfl, rfl, rfl, rfl, rfl, rfl, rfl, rfl, rfl, rfl, rfl, rfl, rfl, fun v hv => by cases hv⟩) hb2 rfl) ?_
 rintro _ w4 ⟨hb3, k4, z3⟩
 replace hb1 := hb1.keep k4 (nm ne_b1_b2)
 replace hB := hB.new k4 (nw ge_b2)
 clear z3
 replace hb3 : Bk w4 b2 _ [.int .i64 64, .int .i64 80, .int .i64 1, .int .i64 8, .int .i64 7, .int .i64 19, .int .i64 61, .int .i64 6, .int .i64 28, .int .i64 34, .int .i64 39, .int .i64 14, .int .i64 18, .int .i64 41, .int .u64 ((cst 64 Hl 0).toNat : Int), .int .u64 ((cst 64 Hl 1).toNat : Int), .int .u64 ((cst 64 Hl 2).toNat : Int), .int .u64 ((cst 64 Hl 3).toNat : Int), .int .u64 ((cst 64 Hl 4).toNat : Int), .int .u64 ((cst 64 Hl 5).toNat : Int), .int .u64 ((cst 64 Hl 6).toNat : Int), .int .u64 ((cst 64 Hl 7).toNat : Int)] := hb3
 refine aT (aS (aR (aU (aw 0 aF rfl fR (by decide) rfl rfl) rfl (aU (aZ gQ rfl hb1 rfl) rfl (aU (aq (j := 128) (dZ rfl rfl) (by decide)) rfl (oga rfl rfl (aT (aS (aR (ogm rfl rfl (aU (bp aB rfl (by first | assumption | exact Own.rd ‹_› | exact Rd.pK ‹_› hB | exact Own.rd (Own.pK ‹_› hB))) rfl (aU (cM (v' := .int .u64 (xs.length : Int)) (gC (by rw [aO]; rfl) aJ rfl) (by rw [fQ, Int.emod_eq_of_lt (by omega) (by omega)])) rfl (aU (cM (v' := .int .u64 (8 * (xs.length : Int))) (dZ rfl rfl) (by rw [fQ, Int.emod_eq_of_lt (by omega) (by omega), Int.mul_comm])) rfl (oga rfl rfl (aT (aW [(1, _), (2, _), (5, _), (6, _), (7, _)] ⟨rfl, rfl, rfl, rfl, rfl, trivial⟩ (aS (aR (ogm rfl rfl (ogm rfl rfl (aU (bp aB rfl (by first | assumption | exact Own.rd ‹_› | exact Rd.pK ‹_› hB | exact Own.rd (Own.pK ‹_› hB))) rfl (ogm rfl rfl (aU (bp aB rfl (by first | assumption | exact Own.rd ‹_› | exact Rd.pK ‹_› hB | exact Own.rd (Own.pK ‹_› hB))) rfl ?_)))))))))))))))))))))))
 obtain ⟨A, cp, hve, _⟩ := id hv
 obtain ⟨u, hu⟩ : ∃ u, u = Value.slice (if ((xs.length : Int)).toNat = 0 then A else A.map (·.add (0 * 1))) ((xs.length : Int)).toNat ((xs.length : Int)).toNat := ⟨_, rfl⟩
 have hru : RdB w4 u xs := by rw [hu]; exact rd_full (c := cp) (by rw [← hve]; exact hv.pK hB)
 have hcu : vcap u = xs.length := by rw [hu]; rfl
 have hcp : xs.length ≤ cp := by obtain ⟨A', c', hv', h2, _⟩ := hv; rw [hve] at hv'; cases hv'; exact h2
 refine aU (cM (v' := u) (g_sl3 aB cZ (congrArg some hve) rfl rfl ⟨by omega, by omega, by omega⟩) hu.symm) rfl (a9 (gS (m := 1) (xs := [.const (.int .u8 (128))]) (vs := [_]) aB cZ (by decide) rfl rfl rfl (by first | (simp; done) | (intro v hv; rw [List.mem_singleton] at hv; subst hv; rfl)) (by decide)) rfl ?_)
 rintro v1 w5 ⟨o1, nn1, lb1, k5, z4⟩
 obtain ⟨hB, hb1, hb3⟩ := cX k5 hB hb1 hb3
 replace o1 : Own w5 _ _ 1 v1 1 (bv [128]) := o1
 refine a9 (d_appF (lo := w.heap.size) aB cZ rfl (by first | exact hru | exact hru.pK ‹_›) hcu rfl (show RdB _ _ [128] from o1.rd) (by decide) (by simp only [List.length_singleton]; omega) (by have := hB.size; omega)) rfl ?_
 rintro q w6 ⟨oq, k6, hlb⟩
 replace oq : OwnB w6 w.heap.size q (xs ++ 128 :: List.replicate 0 0) := by unfold OwnB; rw [List.length_append]; exact oq
 have sbq_b1 := fun x hx => (show x ≠ b1 from by have h1 := hlb x hx; have h2 := hb1.lt; omega)
 have sbq_b2 := fun x hx => (show x ≠ b2 from by have h1 := hlb x hx; have h2 := hb3.lt; omega)
 obtain ⟨hB, hb1, hb3⟩ := cX k6 hB hb1 hb3
 refine oga rfl rfl (aT (aS (a5 (bi (Γ := Nat × Value) (fun ⟨j, o⟩ => [(1, o), (2, .pointer (some ⟨b1, 0, none⟩)), (5, .pointer (some ⟨b2, 0, none⟩)), (6, .int .i64 128), (7, .int .u64 (8 * (xs.length : Int)))]) (fun ⟨j, o⟩ W => j ≤ zs 64 xs.length ∧ OwnB W w.heap.size o (xs ++ 128 :: List.replicate j 0) ∧ (∀ x, x ∈ vblk o → x ≠ b1 ∧ x ≠ b2) ∧ Bk W b1 82 [.int .i64 64, .int .i64 80, .int .i64 1, .int .i64 8, .int .i64 7, .int .i64 19, .int .i64 61, .int .i64 6, .int .i64 28, .int .i64 34, .int .i64 39, .int .i64 14, .int .i64 18, .int .i64 41] ∧ Bk W b2 94 [.int .i64 64, .int .i64 80, .int .i64 1, .int .i64 8, .int .i64 7, .int .i64 19, .int .i64 61, .int .i64 6, .int .i64 28, .int .i64 34, .int .i64 39, .int .i64 14, .int .i64 18, .int .i64 41, .int .u64 ((cst 64 Hl 0).toNat : Int), .int .u64 ((cst 64 Hl 1).toNat : Int), .int .u64 ((cst 64 Hl 2).toNat : Int), .int .u64 ((cst 64 Hl 3).toNat : Int), .int .u64 ((cst 64 Hl 4).toNat : Int), .int .u64 ((cst 64 Hl 5).toNat : Int), .int .u64 ((cst 64 Hl 6).toNat : Int), .int .u64 ((cst 64 Hl 7).toNat : Int)] ∧ Keep [] w W) (fun ⟨j, o⟩ => zs 64 xs.length - j) ⟨0, q⟩ ⟨rfl, rfl, rfl, rfl, rfl, trivial⟩ (⟨by omega, oq, fun x hx => ⟨sbq_b1 x hx, sbq_b2 x hx⟩, hb1, hb3, hB⟩) ?_))))
 rintro ⟨j, o⟩ w7 ⟨hj0, ow, hno, hbp, hbs, hB⟩
 refine aW [(1, o), (2, .pointer (some ⟨b1, 0, none⟩)), (5, .pointer (some ⟨b2, 0, none⟩)), (6, .int .i64 128), (7, .int .u64 (8 * (xs.length : Int)))] ⟨rfl, rfl, rfl, rfl, rfl, trivial⟩ ?_
 have hlo : (xs ++ 128 :: List.replicate j 0).length = xs.length + 1 + j := by rw [List.length_append, List.length_cons, List.length_replicate]; omega
 have sbo_b1 := fun x hx => (hno x hx).1
 have sbo_b2 := fun x hx => (hno x hx).2
 refine aS (aS (aR (ogm rfl rfl (aU (cM (v' := .int .i64 ((xs.length + 1 + j : Nat) : Int)) (bp aB rfl ow.rd) (by rw [hlo])) rfl (ogm rfl rfl (aU (e9 rfl rfl (by omega)) rfl (ogm rfl rfl (ogm rfl rfl (aU (aq (j := 16) (eg rfl rfl (by decide)) (by decide)) rfl (aU (aq (j := 112) (cw rfl rfl) (by decide)) rfl (aU (dU rfl rfl) rfl (aT (bo rfl (fun hc1 => ?_) (fun hc1 => ?_))))))))))))))
 ·
  refine a8 (a5 (aR (ogm rfl rfl (a9 (gS (m := 1) (xs := [.const (.int .u8 (0))]) (vs := [_]) aB cZ (by decide) rfl rfl rfl (by first | (simp; done) | (intro v hv; rw [List.mem_singleton] at hv; subst hv; rfl)) (by decide)) rfl ?_))))
  rintro v2 w8 ⟨o2, nn2, lb2, k7, z5⟩
  replace ow := ow.pK k7
  obtain ⟨hB, hbp, hbs⟩ := cX k7 hB hbp hbs
  replace o2 : Own w8 _ _ 1 v2 1 (bv [0]) := o2
  have lt2_o3 := hbp.lt
  have lt5_o3 := hbs.lt
  refine a9 (eW aB cZ rfl ow rfl (show RdB _ _ [0] from o2.rd) (by rw [hlo]; simp only [List.length_singleton]; omega) (by have := hB.size; omega)) rfl ?_
  rintro v3 w9 ⟨o3, k8, lb3, _⟩
  replace hB := hB.new k8 (fun x hx => .inl (ow.blk x hx).1)
  replace hbp := hbp.keep k8 (fun hm => sbo_b1 _ hm rfl)
  have sb2_o3 := fun x hx => (lb3 x hx).elim (sbo_b1 x) (fun h => (show x ≠ b1 from by omega))
  replace hbs := hbs.keep k8 (fun hm => sbo_b2 _ hm rfl)
  have sb5_o3 := fun x hx => (lb3 x hx).elim (sbo_b2 x) (fun h => (show x ≠ b2 from by omega))
  refine oga rfl rfl (aT (aW [(1, _), (2, _), (5, _), (6, _), (7, _)] ⟨rfl, rfl, rfl, rfl, rfl, trivial⟩ (bg (cA (Γ := Nat × Value) ⟨j + 1, v3⟩ ⟨rfl, rfl, rfl, rfl, rfl, trivial⟩ (by (try dsimp only); omega) (⟨by omega, by unfold OwnB; rw [zstep, List.length_append]; exact o3, (fun x hx => ⟨sb2_o3 x hx, sb5_o3 x hx⟩), hbp, hbs, hB⟩)))))
 ·
  refine bE rfl (aS (aR (ogm rfl rfl (ogm rfl rfl (aU (aq (j := 16) (eg rfl rfl (by decide)) (by decide)) rfl (aU (aq (j := 8) (cw rfl rfl) (by decide)) rfl ?_))))))
  obtain rfl : j = zs 64 xs.length := by omega
  have lt2_o4 := hbp.lt
  have lt5_o4 := hbs.lt
  refine a9 (d_appZo aB aO cZ rfl ow (by simp) rfl (by decide) (by rw [hlo]; omega) (by have := hB.size; omega)) rfl ?_
  rintro v4 w10 ⟨o4, k9, lb4⟩
  replace hB := hB.new k9 (fun x hx => .inl (ow.blk x hx).1)
  replace hbp := hbp.keep k9 (fun hm => sbo_b1 _ hm rfl)
  have sb2_o4 := fun x hx => (lb4 x hx).elim (sbo_b1 x) (fun h => (show x ≠ b1 from by omega))
  replace hbs := hbs.keep k9 (fun hm => sbo_b2 _ hm rfl)
  have sb5_o4 := fun x hx => (lb4 x hx).elim (sbo_b2 x) (fun h => (show x ≠ b2 from by omega))
  replace o4 : OwnB w10 w.heap.size v4 ((xs ++ 128 :: List.replicate (zs 64 xs.length) 0) ++ List.replicate 8 0) := by unfold OwnB; rw [List.length_append]; exact o4
  have hlz : ((xs ++ 128 :: List.replicate (zs 64 xs.length) 0) ++ List.replicate 8 0).length = xs.length + 9 + zs 64 xs.length := by rw [List.length_append, hlo, List.length_replicate]; omega
  refine oga rfl rfl (aT (aW [(1, _), (2, _), (5, _), (6, _), (7, _)] ⟨rfl, rfl, rfl, rfl, rfl, trivial⟩ (aS (aS (aR (oga rfl rfl (aT (a5 ?_))))))))
  obtain ⟨pz, hpz⟩ : ∃ pz, pz = (xs ++ 128 :: List.replicate (zs 64 xs.length) 0) ++ List.replicate 8 0 := ⟨_, rfl⟩
  rw [← hpz] at o4 hlz
  refine bi (Γ := Nat × Value) (fun ⟨j, u⟩ => [(1, u), (2, .pointer (some ⟨b1, 0, none⟩)), (5, .pointer (some ⟨b2, 0, none⟩)), (6, .int .i64 128), (7, .int .u64 (8 * (xs.length : Int))), (8, .int .i64 (56 - 8 * (j : Int)))]) (fun ⟨j, u⟩ W => j ≤ 8 ∧ OwnB W w.heap.size u (pz ++ (be (8 * (xs.length : Int)) 8).take j) ∧ (∀ x, x ∈ vblk u → x ≠ b1 ∧ x ≠ b2) ∧ Bk W b1 82 [.int .i64 64, .int .i64 80, .int .i64 1, .int .i64 8, .int .i64 7, .int .i64 19, .int .i64 61, .int .i64 6, .int .i64 28, .int .i64 34, .int .i64 39, .int .i64 14, .int .i64 18, .int .i64 41] ∧ Bk W b2 94 [.int .i64 64, .int .i64 80, .int .i64 1, .int .i64 8, .int .i64 7, .int .i64 19, .int .i64 61, .int .i64 6, .int .i64 28, .int .i64 34, .int .i64 39, .int .i64 14, .int .i64 18, .int .i64 41, .int .u64 ((cst 64 Hl 0).toNat : Int), .int .u64 ((cst 64 Hl 1).toNat : Int), .int .u64 ((cst 64 Hl 2).toNat : Int), .int .u64 ((cst 64 Hl 3).toNat : Int), .int .u64 ((cst 64 Hl 4).toNat : Int), .int .u64 ((cst 64 Hl 5).toNat : Int), .int .u64 ((cst 64 Hl 6).toNat : Int), .int .u64 ((cst 64 Hl 7).toNat : Int)] ∧ Keep [] w W) (fun ⟨j, u⟩ => 8 - j) ⟨0, _⟩ ⟨rfl, rfl, rfl, rfl, rfl, rfl, trivial⟩ (⟨by omega, by rw [List.take_zero, List.append_nil]; exact o4, fun x hx => ⟨sb2_o4 x hx, sb5_o4 x hx⟩, hbp, hbs, hB⟩) ?_
  rintro ⟨j, u⟩ w11 ⟨hj0, ow, hno, hbp, hbs, hB⟩
  refine aW [(1, u), (2, .pointer (some ⟨b1, 0, none⟩)), (5, .pointer (some ⟨b2, 0, none⟩)), (6, .int .i64 128), (7, .int .u64 (8 * (xs.length : Int))), (8, .int .i64 (56 - 8 * (j : Int)))] ⟨rfl, rfl, rfl, rfl, rfl, rfl, trivial⟩ ?_
  have hlj : (pz ++ (be (8 * (xs.length : Int)) 8).take j).length = xs.length + 9 + zs 64 xs.length + j := by rw [List.length_append, hlz, List.length_take, dc]; omega
  have sbo_b1 := fun x hx => (hno x hx).1
  have sbo_b2 := fun x hx => (hno x hx).2
  refine aS (aS (aR (ogm rfl rfl (aU (g_ge rfl rfl) rfl (aT (bo rfl (fun hc2 => ?_) (fun hc2 => ?_)))))))
  ·
   refine a8 (aS (a5 (aR (ogm rfl rfl (ogm rfl rfl (ogm rfl rfl (aU (fa rfl rfl ⟨by omega, (show _ ≤ ((64 : Nat) : Int) from by omega)⟩) rfl (aU (gC (by rw [aJ]; rfl) aK rfl) rfl (a9 (gS (m := 1) (xs := [.tmp 55]) (vs := [_]) aB cZ (by decide) rfl rfl rfl (by first | (simp; done) | (intro v hv; rw [List.mem_singleton] at hv; subst hv; rfl)) (by decide)) rfl ?_)))))))))
   rintro v5 w12 ⟨o5, nn3, lb5, k10, z6⟩
   replace ow := ow.pK k10
   obtain ⟨hB, hbp, hbs⟩ := cX k10 hB hbp hbs
   have hby : IntKind.u8.wrap ((8 * (xs.length : Int)) / 2 ^ (56 - 8 * (j : Int)).toNat) = ((byteAt (8 * (xs.length : Int)) (7 - j)).toNat : Int) := by rw [fm, IntKind.wrap_u8]; congr 3; omega
   replace o5 := kA o5 hby
   have e1 : (be (8 * (xs.length : Int)) 8).take (j + 1) = (be (8 * (xs.length : Int)) 8).take j ++ [byteAt (8 * (xs.length : Int)) (7 - j)] := dp (by simp only [be, List.getElem?_map]; rw [List.getElem?_range (by omega)]; rfl)
   have lt2_o6 := hbp.lt
   have lt5_o6 := hbs.lt
   refine a9 (eW aB cZ rfl ow rfl (show RdB _ _ [byteAt (8 * (xs.length : Int)) (7 - j)] from o5.rd) (by rw [hlj]; simp only [List.length_singleton]; omega) (by have := hB.size; omega)) rfl ?_
   rintro v6 w13 ⟨o6, k11, lb6, _⟩
   replace hB := hB.new k11 (fun x hx => .inl (ow.blk x hx).1)
   replace hbp := hbp.keep k11 (fun hm => sbo_b1 _ hm rfl)
   have sb2_o6 := fun x hx => (lb6 x hx).elim (sbo_b1 x) (fun h => (show x ≠ b1 from by omega))
   replace hbs := hbs.keep k11 (fun hm => sbo_b2 _ hm rfl)
   have sb5_o6 := fun x hx => (lb6 x hx).elim (sbo_b2 x) (fun h => (show x ≠ b2 from by omega))
   replace o6 : OwnB w13 w.heap.size v6 (pz ++ (be (8 * (xs.length : Int)) 8).take (j + 1)) := by rw [e1, ← List.append_assoc]; unfold OwnB; rw [List.length_append]; exact o6
   refine oga rfl rfl (aT (bg (aR (ogm rfl rfl (aU (cM (v' := .int .i64 (56 - 8 * ((j + 1 : Nat) : Int))) (eG rfl rfl (by omega)) (by congr 1; omega)) rfl (oga rfl rfl (aT (aW [(1, _), (2, _), (5, _), (6, _), (7, _), (8, _)] ⟨rfl, rfl, rfl, rfl, rfl, rfl, trivial⟩ (cA (Γ := Nat × Value) ⟨j + 1, v6⟩ ⟨rfl, rfl, rfl, rfl, rfl, rfl, trivial⟩ (by (try dsimp only); omega) (⟨by omega, o6, (fun x hx => ⟨sb2_o6 x hx, sb5_o6 x hx⟩), hbp, hbs, hB⟩))))))))))
  ·
   refine bE rfl (aS (a5 ?_))
   obtain rfl : j = 8 := by omega
   have hpad : (pad 64 xs) = pz ++ (be (8 * (xs.length : Int)) 8).take 8 := by rw [hpz, pad_eq, List.take_of_length_le (by rw [dc]; exact Nat.le_refl _)]
   have hru0 := ow.rd
   rw [← hpad] at hru0
   have hPM := kr xs; have hPL := pad_le xs
   obtain ⟨M, hM⟩ : ∃ M, M = ((pad 64 xs).length / (2 * 64)) := ⟨_, rfl⟩
   rw [← hM] at hPM
   refine bi (Γ := Nat × S8 64 × Value) (fun ⟨m, X, u⟩ => [(1, u), (2, .pointer (some ⟨b1, 0, none⟩)), (5, .pointer (some ⟨b2, 0, none⟩)), (6, .int .i64 128)]) (fun ⟨m, X, u⟩ W => m ≤ M ∧ blks dW Kl (M - m) ((pad 64 xs).drop (128 * m)) X = blks dW Kl M (pad 64 xs) (st8 64 Hl) ∧ RdB W u ((pad 64 xs).drop (128 * m)) ∧ (∀ x, x ∈ vblk u → x ≠ b2) ∧ Bk W b1 82 [.int .i64 64, .int .i64 80, .int .i64 1, .int .i64 8, .int .i64 7, .int .i64 19, .int .i64 61, .int .i64 6, .int .i64 28, .int .i64 34, .int .i64 39, .int .i64 14, .int .i64 18, .int .i64 41] ∧ Bk W b2 94 [.int .i64 64, .int .i64 80, .int .i64 1, .int .i64 8, .int .i64 7, .int .i64 19, .int .i64 61, .int .i64 6, .int .i64 28, .int .i64 34, .int .i64 39, .int .i64 14, .int .i64 18, .int .i64 41, .int .u64 ((X.a).toNat : Int), .int .u64 ((X.b).toNat : Int), .int .u64 ((X.c).toNat : Int), .int .u64 ((X.d).toNat : Int), .int .u64 ((X.e).toNat : Int), .int .u64 ((X.f).toNat : Int), .int .u64 ((X.g).toNat : Int), .int .u64 ((X.h).toNat : Int)] ∧ Keep [] w W) (fun ⟨m, X, u⟩ => M - m) ⟨0, st8 64 Hl, _⟩ ⟨rfl, rfl, rfl, rfl, trivial⟩ (⟨by omega, rfl, hru0, fun x hx => sbo_b2 x hx, hbp, hbs, hB⟩) ?_
   rintro ⟨m, X, u⟩ w14 ⟨hm0, heq, hru, hnu, hbp, hbs, hB⟩
   refine aW [(1, u), (2, .pointer (some ⟨b1, 0, none⟩)), (5, .pointer (some ⟨b2, 0, none⟩)), (6, .int .i64 128)] ⟨rfl, rfl, rfl, rfl, trivial⟩ ?_
   have hcu := hru.vcap
   have hlu : ((pad 64 xs).drop (128 * m)).length = (pad 64 xs).length - 128 * m := List.length_drop
   refine aS (aS (aR (ogm rfl rfl (aU (cM (v' := .int .i64 (((pad 64 xs).length - 128 * m : Nat) : Int)) (bp aB rfl hru) (by rw [hlu])) rfl (aU (lA rfl rfl) rfl (aT (bo rfl (fun hc3 => ?_) (fun hc3 => ?_))))))))
   ·
    refine a8 (a5 (aS (aR (ogm rfl rfl (ogm rfl rfl ?_)))))
    have hge : 128 ≤ (pad 64 xs).length - 128 * m := by omega
    refine aU (cM (v' := cut u 0 128 1) (i0 aB cZ rfl hru (.inl ⟨rfl, rfl⟩) (.inr ⟨_, _, rfl, rfl⟩) ⟨by omega, by omega, by omega⟩) rfl) rfl ?_
    have hck : RdB w14 (cut u 0 128 1) (((pad 64 xs).drop (128 * m)).take 128) := by have := hru.cutB (l := 0) (hi := 128) (by omega) (by rw [hlu]; omega); simpa using this
    have hcl : (((pad 64 xs).drop (128 * m)).take 128).length = 128 := by rw [List.length_take, hlu]; omega
    refine a9 (aV (vs := [_, _]) rfl (my b2 _ (((pad 64 xs).drop (128 * m)).take 128) X _ (hT.pK hB) hck hcl (by have := hT.two; omega) (fun x hx hm => hnu x (mH hx) (List.mem_singleton.1 hm)) hbs)) rfl ?_
    rintro _ w15 ⟨rfl, hb4, k12⟩
    have hru2 := hru.keep k12 (fun x hx hm => hnu x hx (List.mem_singleton.1 hm))
    replace hbp := hbp.keep k12 (nm ne_b1_b2)
    replace hB := hB.new k12 (nw ge_b2)
    refine aT (aR (ogm rfl rfl (ogm rfl rfl (aU (cM (v' := cut u 128 ((pad 64 xs).drop (128 * m)).length 1) (i0 aB cZ rfl hru2 (.inr ⟨_, _, rfl, rfl⟩) (.inl ⟨rfl, rfl⟩) ⟨by omega, by rw [hlu]; omega, by omega⟩) (by rw [Int.toNat_natCast]; rfl)) rfl ?_))))
    have hru3 : RdB w15 (cut u 128 ((pad 64 xs).drop (128 * m)).length 1) ((pad 64 xs).drop (128 * (m + 1))) := by have := hru2.cutB (l := 128) (hi := ((pad 64 xs).drop (128 * m)).length) (by rw [hlu]; omega) (Nat.le_refl _); rw [List.take_of_length_le (by rw [List.length_drop]; omega), List.drop_drop] at this; exact this
    have hnu3 : ∀ x, x ∈ vblk (cut u 128 ((pad 64 xs).drop (128 * m)).length 1) → x ≠ b2 := fun x hx => hnu x (j6 hx)
    refine oga rfl rfl (aT (aW [(1, _), (2, _), (5, _), (6, _)] ⟨rfl, rfl, rfl, rfl, trivial⟩ (bg (cA (Γ := Nat × S8 64 × Value) ⟨m + 1, blk dW Kl (((pad 64 xs).drop (128 * m)).take 128) X, _⟩ ⟨rfl, rfl, rfl, rfl, trivial⟩ (by (try dsimp only); omega) (⟨by omega, by rw [← heq, mz (show 0 < M - m from by omega), List.drop_drop]; rfl, hru3, hnu3, hbp, hb4, hB⟩)))))
   ·
    refine bE rfl (aS (aR (oga rfl rfl (aT (aS (aS (aR (aU (aw 14 aD rfl dI (by decide) rfl rfl) rfl (aU (aX (cs' := [_, _, _, _, _, _, _, _]) ag92 dI rfl hbs rfl rfl) rfl (ogm rfl rfl (aT (a5 ?_))))))))))))
    obtain rfl : m = M := by omega
    rw [Nat.sub_self] at heq
    refine bi (Γ := Nat × Value) (fun ⟨i, o⟩ => [(2, .pointer (some ⟨b1, 0, none⟩)), (9, o), (69, .agg [.int .u64 ((X.a).toNat : Int), .int .u64 ((X.b).toNat : Int), .int .u64 ((X.c).toNat : Int), .int .u64 ((X.d).toNat : Int), .int .u64 ((X.e).toNat : Int), .int .u64 ((X.f).toNat : Int), .int .u64 ((X.g).toNat : Int), .int .u64 ((X.h).toNat : Int)].toArray), (70, .int .i64 (i : Int))]) (fun ⟨i, o⟩ W => i ≤ 8 ∧ OwnB W w.heap.size o (((nF X).take i).flatMap fun x => be (x.toNat : Int) 8) ∧ (∀ x, x ∈ vblk o → x ≠ b1) ∧ Bk W b1 82 [.int .i64 64, .int .i64 80, .int .i64 1, .int .i64 8, .int .i64 7, .int .i64 19, .int .i64 61, .int .i64 6, .int .i64 28, .int .i64 34, .int .i64 39, .int .i64 14, .int .i64 18, .int .i64 41] ∧ Keep [] w W) (fun ⟨i, o⟩ => 8 - i) ⟨0, .slice none 0 0⟩ ⟨rfl, rfl, rfl, rfl, trivial⟩ (⟨by omega, dX _ _ _ _, fun x hx => (by cases hx), hbp, hB⟩) ?_
    rintro ⟨i, o⟩ w16 ⟨hi0, ow, hno, hbp, hB⟩
    refine aW [(2, .pointer (some ⟨b1, 0, none⟩)), (9, o), (69, .agg [.int .u64 ((X.a).toNat : Int), .int .u64 ((X.b).toNat : Int), .int .u64 ((X.c).toNat : Int), .int .u64 ((X.d).toNat : Int), .int .u64 ((X.e).toNat : Int), .int .u64 ((X.f).toNat : Int), .int .u64 ((X.g).toNat : Int), .int .u64 ((X.h).toNat : Int)].toArray), (70, .int .i64 (i : Int))] ⟨rfl, rfl, rfl, rfl, trivial⟩ ?_
    have hfl : (((nF X).take i).flatMap fun x => be (x.toNat : Int) 8).length ≤ 64 := oY X i
    refine aS (aR (aU (bW rfl rfl) rfl (aT (aS (bo rfl (fun hc4 => ?_) (fun hc4 => ?_))))))
    ·
     refine a8 (aS (a5 (aS (aR ?_))))
     obtain ⟨x, hx⟩ : ∃ x, (nF X)[i]? = some x := ⟨_, List.getElem?_eq_getElem (show i < (nF X).length from by show i < 8; omega)⟩
     refine aU (cM (v' := .int .u64 ((x).toNat : Int)) (ez (cs := iv .u64 8 (wN (nF X))) aC aY ai rfl rfl (by omega) (bO (by omega))) (by rw [Int.toNat_natCast]; unfold wN; rw [List.getD_eq_getElem?_getD, hx]; rfl)) rfl ?_
     refine oga rfl rfl (aT (aS (aR (aU (aw 0 aF rfl fR (by decide) rfl rfl) rfl (aU (aZ gQ rfl hbp rfl) rfl (aU (aq (j := 56) (cw rfl rfl) (by decide)) rfl (oga rfl rfl (aT (a5 (bi (Γ := Nat × Value) (fun ⟨j, o'⟩ => [(2, .pointer (some ⟨b1, 0, none⟩)), (9, o'), (11, .int .u64 ((x).toNat : Int)), (12, .int .i64 (56 - 8 * (j : Int))), (69, .agg [.int .u64 ((X.a).toNat : Int), .int .u64 ((X.b).toNat : Int), .int .u64 ((X.c).toNat : Int), .int .u64 ((X.d).toNat : Int), .int .u64 ((X.e).toNat : Int), .int .u64 ((X.f).toNat : Int), .int .u64 ((X.g).toNat : Int), .int .u64 ((X.h).toNat : Int)].toArray), (70, .int .i64 (i : Int))]) (fun ⟨j, o'⟩ W => j ≤ 8 ∧ OwnB W w.heap.size o' ((((nF X).take i).flatMap fun x => be (x.toNat : Int) 8) ++ (be (x.toNat : Int) 8).take j) ∧ (∀ x, x ∈ vblk o' → x ≠ b1) ∧ Bk W b1 82 [.int .i64 64, .int .i64 80, .int .i64 1, .int .i64 8, .int .i64 7, .int .i64 19, .int .i64 61, .int .i64 6, .int .i64 28, .int .i64 34, .int .i64 39, .int .i64 14, .int .i64 18, .int .i64 41] ∧ Keep [] w W) (fun ⟨j, o'⟩ => 8 - j) ⟨0, o⟩ ⟨rfl, rfl, rfl, rfl, rfl, rfl, trivial⟩ (⟨by omega, by rw [List.take_zero, List.append_nil]; exact ow, hno, hbp, hB⟩) ?_))))))))))
     rintro ⟨j, o'⟩ w17 ⟨hj0, ow, hno, hbp, hB⟩
     refine aW [(2, .pointer (some ⟨b1, 0, none⟩)), (9, o'), (11, .int .u64 ((x).toNat : Int)), (12, .int .i64 (56 - 8 * (j : Int))), (69, .agg [.int .u64 ((X.a).toNat : Int), .int .u64 ((X.b).toNat : Int), .int .u64 ((X.c).toNat : Int), .int .u64 ((X.d).toNat : Int), .int .u64 ((X.e).toNat : Int), .int .u64 ((X.f).toNat : Int), .int .u64 ((X.g).toNat : Int), .int .u64 ((X.h).toNat : Int)].toArray), (70, .int .i64 (i : Int))] ⟨rfl, rfl, rfl, rfl, rfl, rfl, trivial⟩ (aS (aS (aR (ogm rfl rfl (aU (g_ge rfl rfl) rfl (aT (bo rfl (fun hc5 => ?_) (fun hc5 => ?_))))))))
     ·
      refine a8 (aS (a5 (aR (ogm rfl rfl (ogm rfl rfl (ogm rfl rfl (aU (fa rfl rfl (by constructor <;> (try simp only [IntKind.bits]) <;> omega)) rfl (aU (gC (by rw [aJ]; rfl) aK rfl) rfl (a9 (gS (m := 1) (xs := [.tmp 84]) (vs := [_]) aB cZ (by decide) rfl rfl rfl (by first | (simp; done) | (intro v hv; rw [List.mem_singleton] at hv; subst hv; rfl)) (by decide)) rfl ?_)))))))))
      rintro v7 w18 ⟨o7, nn4, lb7, k13, z7⟩
      replace ow := ow.pK k13
      obtain ⟨hB, hbp⟩ := bT k13 hB hbp
      have hby : IntKind.u8.wrap ((x.toNat : Int) / 2 ^ (56 - 8 * (j : Int)).toNat) = ((byteAt (x.toNat : Int) (7 - j)).toNat : Int) := by rw [fm, IntKind.wrap_u8]; congr 3; omega
      replace o7 := kA o7 hby
      have e1 : (be (x.toNat : Int) 8).take (j + 1) = (be (x.toNat : Int) 8).take j ++ [byteAt (x.toNat : Int) (7 - j)] := dp (by simp only [be, List.getElem?_map]; rw [List.getElem?_range (by omega)]; rfl)
      have hl8 : ((be (x.toNat : Int) 8).take j).length ≤ 8 := by rw [List.length_take, dc]; omega
      have lt_o8 := hbp.lt
      refine a9 (eW aB cZ rfl ow rfl (show RdB _ _ [byteAt (x.toNat : Int) (7 - j)] from o7.rd) (by simp only [List.length_append, List.length_singleton]; omega) (by have := hB.size; omega)) rfl ?_
      rintro v8 w19 ⟨o8, k14, lb8, _⟩
      replace hB := hB.new k14 (fun x hx => .inl (ow.blk x hx).1)
      replace hbp := hbp.keep k14 (fun hm => hno _ hm rfl)
      have sb_o8 := fun x hx => (lb8 x hx).elim (hno x) (fun h => (show x ≠ b1 from by omega))
      refine oga rfl rfl (aT (bg (aR (ogm rfl rfl (aU (cM (v' := .int .i64 (56 - 8 * ((j + 1 : Nat) : Int))) (eG rfl rfl (by omega)) (by congr 1; omega)) rfl (oga rfl rfl (aT (aW [(2, _), (9, _), (11, _), (12, _), (69, _), (70, _)] ⟨rfl, rfl, rfl, rfl, rfl, rfl, trivial⟩ (cA (Γ := Nat × Value) ⟨j + 1, v8⟩ ⟨rfl, rfl, rfl, rfl, rfl, rfl, trivial⟩ (by (try dsimp only); omega) (⟨by omega, by rw [e1, ← List.append_assoc]; unfold OwnB; rw [List.length_append]; exact o8, sb_o8, hbp, hB⟩))))))))))
     ·
      refine bE rfl (bg (aR (aU (cI rfl rfl (by omega)) rfl (ogm rfl rfl (aT ?_)))))
      obtain rfl : j = 8 := by omega
      rw [List.take_of_length_le (show (be (x.toNat : Int) 8).length ≤ 8 from by rw [dc]; exact Nat.le_refl _)] at ow
      refine cA (Γ := Nat × Value) ⟨i + 1, o'⟩ ⟨rfl, rfl, rfl, rfl, trivial⟩ (by (try dsimp only); omega) (⟨by omega, by rw [lB hx]; exact ow, hno, hbp, hB⟩)
    ·
     refine bE rfl (aS (aR (ogm rfl rfl (oga rfl rfl (aT (bD hfin Tryd.results49 rfl ?_))))))
     obtain rfl : i = 8 := by omega
     rw [List.take_of_length_le (show (nF X).length ≤ 8 from Nat.le_refl 8)] at ow
     refine ⟨?_, hB⟩
     unfold Sha.sum
     rw [← hM, ← heq]
     exact ow
theorem ka (v : Value) (xs : List UInt8) (w : World) (hT : Tabs w) (hv : RdB w v xs) (hx : xs.length ≤ 140737488354000) : Rets Tryd.prog 20 [v] w (fun r w' => OwnB w' w.heap.size r (Sha.sum dW Kl Hl xs) ∧ Keep [] w w') := by
 have hB : Keep [] w w := Keep.refl _ _
 refine a7 Tryd.func20 rfl (by decide) Tryd.ntmps20 rfl (fun fin _ hfin => aS (aR (oga rfl rfl (aT (aS (aR (a9 (aV (vs := []) rfl (nH _)) rfl ?_)))))))
 rintro _ w1 ⟨rfl, k1⟩
 replace hB := hB.trans k1
 refine ogm rfl rfl (a9 (aV (vs := [_, _]) rfl (sum_any _ xs _ (hT.pK hB) (hv.pK hB) hx)) rfl ?_)
 rintro v1 w2 ⟨o1, k2⟩
 have gl_o1 := hB.size
 replace hB := hB.trans k2
 refine oga rfl rfl (aT (bD hfin Tryd.results20 rfl ?_))
 exact ⟨o1.lo gl_o1, hB⟩
end Go.Proofs.YtllmbkmghmmhfaaDoor.W
namespace Go.Proofs.YtllmbkmghmmhfaaDoor.W
open Go Go.Eng Go.Byt
open Go.Fld Go.Ed
theorem d_bytes : fp (leI [163, 120, 89, 19, 202, 77, 235, 117, 171, 216, 65, 65, 77, 10, 112, 0, 152, 232, 121, 119, 121, 64, 199, 140, 115, 254, 111, 43, 238, 108, 3, 82]) = d := by decide +kernel
theorem kp (w : World) : Rets Tryd.prog 40 [] w (fun v w' => ∃ h, v = .agg (iv .u64 5 h).toArray ∧ El h d ∧ Keep [] w w') := by
 have hB : Keep [] w w := Keep.refl _ _
 refine a7 Tryd.func40 rfl (by decide) Tryd.ntmps40 rfl (fun fin _ hfin => aS (aR (a9 (ab aj) rfl ?_)))
 rintro _ w1 ⟨b1, rfl, eb1, hb1, k1, z1⟩
 have ge_b1 : w.heap.size ≤ b1 := by have := hB.size; omega
 replace hB := hB.trans k1
 clear eb1 z1
 refine aT (aS (aR (a9 (gS (m := 32) (xs := [.const (.int .u8 (163)), .const (.int .u8 (120)), .const (.int .u8 (89)), .const (.int .u8 (19)), .const (.int .u8 (202)), .const (.int .u8 (77)), .const (.int .u8 (235)), .const (.int .u8 (117)), .const (.int .u8 (171)), .const (.int .u8 (216)), .const (.int .u8 (65)), .const (.int .u8 (65)), .const (.int .u8 (77)), .const (.int .u8 (10)), .const (.int .u8 (112)), .const (.int .u8 (0)), .const (.int .u8 (152)), .const (.int .u8 (232)), .const (.int .u8 (121)), .const (.int .u8 (119)), .const (.int .u8 (121)), .const (.int .u8 (64)), .const (.int .u8 (199)), .const (.int .u8 (140)), .const (.int .u8 (115)), .const (.int .u8 (254)), .const (.int .u8 (111)), .const (.int .u8 (43)), .const (.int .u8 (238)), .const (.int .u8 (108)), .const (.int .u8 (3)), .const (.int .u8 (82))]) (vs := [_, _, _, _, _, _, _, _, _, _, _, _, _, _, _, _, _, _, _, _, _, _, _, _, _, _, _, _, _, _, _, _]) aB cZ (by decide) rfl rfl rfl (by simp only [List.forall_mem_cons]; exact ⟨rfl, rfl, rfl, rfl, rfl, rfl, rfl, rfl, rfl, rfl, rfl, rfl, rfl, rfl, rfl, rfl, rfl, rfl, rfl, rfl, rfl, rfl, rfl, rfl, rfl, rfl, rfl, rfl, rfl, rfl, rfl, rfl, fun v hv => by cases hv⟩) (by decide)) rfl ?_)))
 rintro v1 w2 ⟨o1, nn1, lb1, k2, z2⟩
 obtain ⟨hB, hb1⟩ := bT k2 hB hb1
 replace o1 : Own w2 _ _ 1 v1 32 (bv [163, 120, 89, 19, 202, 77, 235, 117, 171, 216, 65, 65, 77, 10, 112, 0, 152, 232, 121, 119, 121, 64, 199, 140, 115, 254, 111, 43, 238, 108, 3, 82]) := o1
 refine a9 (aV (vs := [_]) rfl (iE _ [163, 120, 89, 19, 202, 77, 235, 117, 171, 216, 65, 65, 77, 10, 112, 0, 152, 232, 121, 119, 121, 64, 199, 140, 115, 254, 111, 43, 238, 108, 3, 82] _ o1.rd rfl)) rfl ?_
 rintro _ w3 ⟨hh1, rfl, E1, k3⟩
 obtain ⟨hB, hb1⟩ := bT k3 hB hb1
 refine ogm rfl rfl (aU (ar (vs := [_, _]) rfl rfl) rfl (aU (ar (vs := [_, _]) rfl rfl) rfl (a9 (ab aj) rfl ?_)))
 rintro _ w4 ⟨b2, rfl, eb2, hb2, k4, z3⟩
 have ge_b2 : w.heap.size ≤ b2 := by have := hB.size; omega
 have ne_b1_b2 : b1 ≠ b2 := by have := hb1.lt; omega
 obtain ⟨hB, hb1⟩ := bT k4 hB hb1
 clear eb2 z3
 refine a6 (ak aj rfl rfl rfl ad hb2 rfl) ?_
 rintro _ w5 ⟨hb3, k5, z4⟩
 replace hb1 := hb1.keep k5 (nm ne_b1_b2)
 replace hB := hB.new k5 (nw ge_b2)
 clear z4
 replace hb3 := cv (g := hh1) hb3
 refine oga rfl rfl (aT (aS (aR (aU (aX (cs' := [_, _, _, _, _]) bG aj rfl hb3 rfl rfl) rfl (a6 (ak aj rfl rfl rfl (by simp only [List.forall_mem_cons]; refine ⟨rfl, rfl, rfl, rfl, rfl, fun v hv => by cases hv⟩) hb1 rfl) ?_)))))
 rintro _ w6 ⟨hb4, k6, z5⟩
 replace hB := hB.new k6 (nw ge_b1)
 clear z5
 replace hb4 := cv (g := hh1) hb4
 refine aT (bP hfin Tryd.results40 rfl (ae bG aj hb4 rfl)  ?_)
 exact ⟨hh1, rfl, d_bytes ▸ E1, hB⟩
theorem ll (f : Nat → Int) : (iv .u64 5 f).toArray.extract 0 (0 + 5) = (iv .u64 5 f).toArray := by rw [List.extract_toArray]; rfl
theorem kG (f : Nat → Int) : (iv .u64 20 f).toArray.extract 0 (0 + 5) = (iv .u64 5 f).toArray ∧ (iv .u64 20 f).toArray.extract 5 (5 + 5) = (iv .u64 5 (fun i => f (5 + i))).toArray ∧ (iv .u64 20 f).toArray.extract 10 (10 + 5) = (iv .u64 5 (fun i => f (10 + i))).toArray ∧ (iv .u64 20 f).toArray.extract 15 (15 + 5) = (iv .u64 5 (fun i => f (15 + i))).toArray := by
  refine ⟨?_, ?_, ?_, ?_⟩ <;> (rw [List.extract_toArray]; rfl)
def ms (f g : Nat → Int) : Bool := (List.range 5).all fun i => f i == g i
theorem jK (w : World) (d : Nat) (f g : Nat → Int) : (Op.equalIn (d + 3) 43 (.agg (iv .u64 5 f).toArray) (.agg (iv .u64 5 g).toArray)).run Tryd.prog w = .ok (ms f g && true) w :=
 jp w aN (by kernel_rfl) (ej w rfl ay ah (by rw [show (0 : Nat) + 5 = 5 from rfl]; exact (ll f ▸ ll g ▸ n9 w (d := d) aA aJ aY f g)) (lu w (d + 2) (iv .u64 5 f).toArray (iv .u64 5 g).toArray))
theorem pt_eq (w : World) (f g : Nat → Int) : (Op.equalIn 10000 45 (.agg (iv .u64 20 f).toArray) (.agg (iv .u64 20 g).toArray)).run Tryd.prog w = .ok ((ms f g && true) && ((ms (fun i => f (5 + i)) (fun i => g (5 + i)) && true) && ((ms (fun i => f (10 + i)) (fun i => g (10 + i)) && true) && ((ms (fun i => f (15 + i)) (fun i => g (15 + i)) && true) && true)))) w := by
  obtain ⟨a1, a2, a3, a4⟩ := kG f
  obtain ⟨b1, b2, b3, b4⟩ := kG g
  refine jp w aE (by kernel_rfl) (ej w rfl bG aj ?_ (ej w rfl bG aj ?_ (ej w rfl bG aj ?_ (ej w rfl bG aj ?_ (lu w 9999 (iv .u64 20 f).toArray (iv .u64 20 g).toArray)))))
  · exact a1 ▸ b1 ▸ jK w 9996 _ _
  · exact a2 ▸ b2 ▸ jK w 9996 _ _
  · exact a3 ▸ b3 ▸ jK w 9996 _ _
  · exact a4 ▸ b4 ▸ jK w 9996 _ _
theorem od {f : Nat → Int} {g : Nat → Int} {a : Fp} (h : ms f (fun _ => 0) = true) (hg : El g a) (h0 : g 0 = f 0 ∧ g 1 = f 1 ∧ g 2 = f 2 ∧ g 3 = f 3 ∧ g 4 = f 4) : a = 0 := by
  have e := fun i hi => eq_of_beq (List.all_eq_true.1 h i (List.mem_range.2 hi))
  obtain ⟨g0, g1, g2, g3, g4⟩ := h0
  obtain ⟨_, _, _, _, _, hv⟩ := hg
  rw [← hv]; unfold dC
  rw [g0, g1, g2, g3, g4, e 0 (by decide), e 1 (by decide), e 2 (by decide), e 3 (by decide), e 4 (by decide)]
  decide
theorem full_ne {p : Nat → Int} {X Y Z T : Fp} (h : PtEl p X Y Z T) (hz : Z ≠ 0) : ((ms p (fun _ => 0) && true) && ((ms (fun i => p (5 + i)) (fun _ => 0) && true) && ((ms (fun i => p (10 + i)) (fun _ => 0) && true) && ((ms (fun i => p (15 + i)) (fun _ => 0) && true) && true)))) = false := by
  cases he : ms (fun i => p (10 + i)) (fun _ => 0) with
  | true => exact absurd (od he h.2.2.1 ⟨rfl, rfl, rfl, rfl, rfl⟩) hz
  | false => simp
theorem fb (p : Nat → Int) (X Y Z T : Fp) (hp : PtEl p X Y Z T) (hz : Z ≠ 0) (w : World) : Rets Tryd.prog 25 [.agg (iv .u64 20 p).toArray] w (fun v w' => ∃ r, v = .agg (iv .u64 20 r).toArray ∧ PtEl r X Y Z T ∧ Keep [] w w') := by
 have hB : Keep [] w w := Keep.refl _ _
 refine a7 Tryd.func25 rfl (by decide) Tryd.ntmps25 rfl (fun fin _ hfin => aS (aR (a9 (bc (cs := [.int .u64 (p 0), .int .u64 (p 1), .int .u64 (p 2), .int .u64 (p 3), .int .u64 (p 4), .int .u64 (p 5), .int .u64 (p 6), .int .u64 (p 7), .int .u64 (p 8), .int .u64 (p 9), .int .u64 (p 10), .int .u64 (p 11), .int .u64 (p 12), .int .u64 (p 13), .int .u64 (p 14), .int .u64 (p 15), .int .u64 (p 16), .int .u64 (p 17), .int .u64 (p 18), .int .u64 (p 19)]) rfl rfl) rfl ?_)))
 rintro _ w1 ⟨b1, rfl, eb1, hb1, k1, z1⟩
 replace hB := hB.trans k1
 clear eb1 z1
 refine a9 (ab bA) rfl ?_
 rintro _ w2 ⟨b2, rfl, eb2, hb2, k2, z2⟩
 have ge_b2 : w.heap.size ≤ b2 := by have := hB.size; omega
 obtain ⟨hB, hb1⟩ := bT k2 hB hb1
 clear eb2 z2
 refine aT (aS (aS (aR (aU (aX (cs' := [_, _, _, _, _, _, _, _, _, _, _, _, _, _, _, _, _, _, _, _]) cq bA rfl hb1 rfl rfl) rfl (aU (cd (idx := []) (xs := []) (vs := []) (css := []) (out := [_, _, _, _, _, _, _, _, _, _, _, _, _, _, _, _, _, _, _, _]) jw bA rfl rfl trivial rfl rfl) rfl (aU (oU (by kernel_rfl) rfl rfl (pt_eq _ p (fun _ => 0))) rfl (aT (fS rfl (full_ne hp hz) (a8 (aS (aR (aU (aX (cs' := [_, _, _, _, _, _, _, _, _, _, _, _, _, _, _, _, _, _, _, _]) cq bA rfl hb1 rfl rfl) rfl (a6 (ak bA rfl rfl rfl (by simp only [List.forall_mem_cons]; refine ⟨rfl, rfl, rfl, rfl, rfl, rfl, rfl, rfl, rfl, rfl, rfl, rfl, rfl, rfl, rfl, rfl, rfl, rfl, rfl, rfl, fun v hv => by cases hv⟩) hb2 rfl) ?_)))))))))))))
 rintro _ w3 ⟨hb3, k3, z3⟩
 replace hB := hB.new k3 (nw ge_b2)
 clear z3
 replace hb3 := et (g := p) hb3
 refine aT (bP hfin Tryd.results25 rfl (ae cq bA hb3 rfl)  ?_)
 exact ⟨p, rfl, ⟨hp.1, hp.2.1, hp.2.2.1, hp.2.2.2⟩, hB⟩
theorem mq (w : World) : Rets Tryd.prog 25 [.agg (iv .u64 20 (fun _ => 0)).toArray] w (fun v w' => ∃ r, v = .agg (iv .u64 20 r).toArray ∧ PtEl r 0 (fp 1) (fp 1) (0 * fp 1) ∧ Keep [] w w') := by
 have hB : Keep [] w w := Keep.refl _ _
 refine a7 Tryd.func25 rfl (by decide) Tryd.ntmps25 rfl (fun fin _ hfin => aS (aR (a9 (bc (cs := [.int .u64 ((fun _ => 0) 0), .int .u64 ((fun _ => 0) 1), .int .u64 ((fun _ => 0) 2), .int .u64 ((fun _ => 0) 3), .int .u64 ((fun _ => 0) 4), .int .u64 ((fun _ => 0) 5), .int .u64 ((fun _ => 0) 6), .int .u64 ((fun _ => 0) 7), .int .u64 ((fun _ => 0) 8), .int .u64 ((fun _ => 0) 9), .int .u64 ((fun _ => 0) 10), .int .u64 ((fun _ => 0) 11), .int .u64 ((fun _ => 0) 12), .int .u64 ((fun _ => 0) 13), .int .u64 ((fun _ => 0) 14), .int .u64 ((fun _ => 0) 15), .int .u64 ((fun _ => 0) 16), .int .u64 ((fun _ => 0) 17), .int .u64 ((fun _ => 0) 18), .int .u64 ((fun _ => 0) 19)]) rfl rfl) rfl ?_)))
 rintro _ w1 ⟨b1, rfl, eb1, hb1, k1, z1⟩
 replace hB := hB.trans k1
 clear eb1 z1
 refine a9 (ab bA) rfl ?_
 rintro _ w2 ⟨b2, rfl, eb2, hb2, k2, z2⟩
 have ge_b2 : w.heap.size ≤ b2 := by have := hB.size; omega
 obtain ⟨hB, hb1⟩ := bT k2 hB hb1
 clear eb2 z2
 refine aT (aS (aS (aR (aU (aX (cs' := [_, _, _, _, _, _, _, _, _, _, _, _, _, _, _, _, _, _, _, _]) cq bA rfl hb1 rfl rfl) rfl (aU (cd (idx := []) (xs := []) (vs := []) (css := []) (out := [_, _, _, _, _, _, _, _, _, _, _, _, _, _, _, _, _, _, _, _]) jw bA rfl rfl trivial rfl rfl) rfl (aU (oU (by kernel_rfl) rfl rfl (pt_eq _ (fun _ => 0) (fun _ => 0))) rfl (aT (nO rfl (by decide) (aS (aR (aU (cd (idx := []) (xs := []) (vs := []) (css := []) (out := [_, _, _, _, _]) jx aj rfl rfl trivial rfl rfl) rfl (a9 (aV (vs := [_]) rfl (gF _ (by decide) _)) rfl ?_))))))))))))
 rintro _ w3 ⟨hh1, rfl, E1, k3⟩
 obtain ⟨hB, hb2⟩ := bT k3 hB hb2
 refine a9 (aV (vs := [_, _]) rfl (fM _ _ _ _ eU E1 _)) rfl ?_
 rintro _ w4 ⟨hh2, rfl, E2, k4⟩
 obtain ⟨hB, hb2⟩ := bT k4 hB hb2
 refine a6 (ak bA rfl rfl rfl ad hb2 rfl) ?_
 rintro _ w5 ⟨hb3, k5, z3⟩
 replace hB := hB.new k5 (nw ge_b2)
 clear z3
 replace hb3 := et (g := hh2) hb3
 refine aT (bP hfin Tryd.results25 rfl (ae cq bA hb3 rfl)  ?_)
 exact ⟨hh2, rfl, ⟨E2.1, E2.2.1, E2.2.2.1, E2.2.2.2⟩, hB⟩
theorem nD (p q : Nat → Int) (X1 Y1 Z1 T1 X2 Y2 Z2 T2 : Fp) (hp : PtEl p X1 Y1 Z1 T1) (hz1 : Z1 ≠ 0) (hq : PtEl q X2 Y2 Z2 T2) (hz2 : Z2 ≠ 0) (w : World) : Rets Tryd.prog 19 [.agg (iv .u64 20 p).toArray, .agg (iv .u64 20 q).toArray] w (fun v w' => ∃ r, v = .agg (iv .u64 20 r).toArray ∧ PtEl r (((X1 + Y1) * (X2 + Y2) - X1 * X2 - Y1 * Y2) * (Z1 * Z2 - T1 * T2 * d)) ((Z1 * Z2 + T1 * T2 * d) * (Y1 * Y2 + X1 * X2)) ((Z1 * Z2 - T1 * T2 * d) * (Z1 * Z2 + T1 * T2 * d)) (((X1 + Y1) * (X2 + Y2) - X1 * X2 - Y1 * Y2) * (Y1 * Y2 + X1 * X2)) ∧ Keep [] w w') := by
 have hB : Keep [] w w := Keep.refl _ _
 refine a7 Tryd.func19 rfl (by decide) Tryd.ntmps19 rfl (fun fin _ hfin => aS (aR (a9 (bc (cs := [.int .u64 (p 0), .int .u64 (p 1), .int .u64 (p 2), .int .u64 (p 3), .int .u64 (p 4), .int .u64 (p 5), .int .u64 (p 6), .int .u64 (p 7), .int .u64 (p 8), .int .u64 (p 9), .int .u64 (p 10), .int .u64 (p 11), .int .u64 (p 12), .int .u64 (p 13), .int .u64 (p 14), .int .u64 (p 15), .int .u64 (p 16), .int .u64 (p 17), .int .u64 (p 18), .int .u64 (p 19)]) rfl rfl) rfl ?_)))
 rintro _ w1 ⟨b1, rfl, eb1, hb1, k1, z1⟩
 replace hB := hB.trans k1
 clear eb1 z1
 refine a9 (bc (cs := [.int .u64 (q 0), .int .u64 (q 1), .int .u64 (q 2), .int .u64 (q 3), .int .u64 (q 4), .int .u64 (q 5), .int .u64 (q 6), .int .u64 (q 7), .int .u64 (q 8), .int .u64 (q 9), .int .u64 (q 10), .int .u64 (q 11), .int .u64 (q 12), .int .u64 (q 13), .int .u64 (q 14), .int .u64 (q 15), .int .u64 (q 16), .int .u64 (q 17), .int .u64 (q 18), .int .u64 (q 19)]) rfl rfl) rfl ?_
 rintro _ w2 ⟨b2, rfl, eb2, hb2, k2, z2⟩
 obtain ⟨hB, hb1⟩ := bT k2 hB hb1
 clear eb2 z2
 refine a9 (ab bA) rfl ?_
 rintro _ w3 ⟨b3, rfl, eb3, hb3, k3, z3⟩
 have ge_b3 : w.heap.size ≤ b3 := by have := hB.size; omega
 obtain ⟨hB, hb1, hb2⟩ := cX k3 hB hb1 hb2
 clear eb3 z3
 refine aT (aS (bz 6 [0, 2, 1, 3, 4, 5] [1, 3, 4, 5] [] mixed [(2, _), (3, _), (4, _)] ⟨rfl, rfl, rfl, trivial⟩ (by decide +kernel) rfl (fun w4 k4 => ?_)))
 obtain ⟨hB, hb1, hb2, hb3⟩ := cy k4 hB hb1 hb2 hb3
 refine ao 2 rfl rfl rfl rfl (fun W' kk => aX (cs' := [_, _, _, _, _, _, _, _, _, _, _, _, _, _, _, _, _, _, _, _]) cq bA rfl (Bk.pK hb1 kk) rfl rfl) (ao 3 rfl rfl rfl rfl (fun W' kk => aX (cs' := [_, _, _, _, _, _, _, _, _, _, _, _, _, _, _, _, _, _, _, _]) cq bA rfl (Bk.pK hb2 kk) rfl rfl) (bx [(5, _)] rfl rfl ⟨rfl, trivial⟩ rfl (aV (vs := [_]) rfl (fb _ _ _ _ _ ⟨hp.1, hp.2.1, hp.2.2.1, hp.2.2.2⟩ hz1 _)) ?_))
 rintro _ w5 ⟨hh1, rfl, E1, k5⟩
 refine ⟨k5, ?_⟩
 obtain ⟨hB, hb3⟩ := bT k5 hB hb3
 refine bx [(7, _)] rfl rfl ⟨rfl, trivial⟩ rfl (aV (vs := [_]) rfl (fb _ _ _ _ _ ⟨hq.1, hq.2.1, hq.2.2.1, hq.2.2.2⟩ hz2 _)) ?_
 rintro _ w6 ⟨hh2, rfl, E2, k6⟩
 refine ⟨k6, ?_⟩
 obtain ⟨hB, hb3⟩ := bT k6 hB hb3
 refine bx [] rfl rfl trivial rfl (aV (vs := []) rfl (kp _)) ?_
 rintro _ w7 ⟨hh3, rfl, E3, k7⟩
 refine ⟨k7, ?_⟩
 obtain ⟨hB, hb3⟩ := bT k7 hB hb3
 refine bx [(6, _), (8, _), (9, _)] rfl rfl ⟨rfl, rfl, rfl, trivial⟩ rfl (aV (vs := [_, _, _]) rfl (ib _ _ _ _ _ _ _ _ _ _ _ _ ⟨E1.1, E1.2.1, E1.2.2.1, E1.2.2.2⟩ ⟨E2.1, E2.2.1, E2.2.2.1, E2.2.2.2⟩ E3 _)) ?_
 rintro _ w8 ⟨hh4, rfl, E4, k8⟩
 refine ⟨k8, ?_⟩
 obtain ⟨hB, hb3⟩ := bT k8 hB hb3
 refine cS (a6 (ak bA rfl rfl rfl ad hb3 rfl) ?_)
 rintro _ w9 ⟨hb4, k9, z4⟩
 replace hB := hB.new k9 (nw ge_b3)
 clear z4
 replace hb4 := et (g := hh4) hb4
 refine aT (bP hfin Tryd.results19 rfl (ae cq bA hb4 rfl)  ?_)
 exact ⟨hh4, rfl, ⟨E4.1, E4.2.1, E4.2.2.1, E4.2.2.2⟩, hB⟩
theorem nB (w : World) : Rets Tryd.prog 46 [] w (fun v w' => ∃ r, v = .agg (iv .u64 20 r).toArray ∧ PtEl r 0 (fp 1) (fp 1) (0 * fp 1) ∧ Keep [] w w') := by
 have hB : Keep [] w w := Keep.refl _ _
 refine a7 Tryd.func46 rfl (by decide) Tryd.ntmps46 rfl (fun fin _ hfin => aS (aR (a9 (ab bA) rfl ?_)))
 rintro _ w1 ⟨b1, rfl, eb1, hb1, k1, z1⟩
 have ge_b1 : w.heap.size ≤ b1 := by have := hB.size; omega
 replace hB := hB.trans k1
 clear eb1 z1
 refine aT (aS (aR (aU (cd (idx := []) (xs := []) (vs := []) (css := []) (out := [_, _, _, _, _, _, _, _, _, _, _, _, _, _, _, _, _, _, _, _]) jw bA rfl rfl trivial rfl rfl) rfl (a9 (aV (vs := [_]) rfl (mq _)) rfl ?_))))
 rintro _ w2 ⟨hh1, rfl, E1, k2⟩
 obtain ⟨hB, hb1⟩ := bT k2 hB hb1
 refine a6 (ak bA rfl rfl rfl ad hb1 rfl) ?_
 rintro _ w3 ⟨hb2, k3, z2⟩
 replace hB := hB.new k3 (nw ge_b1)
 clear z2
 replace hb2 := et (g := hh1) hb2
 refine aT (bP hfin Tryd.results46 rfl (ae cq bA hb2 rfl)  ?_)
 exact ⟨hh1, rfl, ⟨E1.1, E1.2.1, E1.2.2.1, E1.2.2.2⟩, hB⟩
theorem j2 {xs : List UInt8} {i : Nat} {b : Int} (h : In b 0 255) : (bv xs).set i (.int .u8 b) = bv (xs.set i (UInt8.ofNat b.toNat)) := by
 unfold In at h
 have e : (((UInt8.ofNat b.toNat).toNat : Nat) : Int) = b := by simp; omega
 unfold bv
 rw [List.map_set, e]
def encB (x y : Fp) : List UInt8 := (fpB y).set 31 (UInt8.ofNat (bits .or .u8 (gb (fpB y) 31) (IntKind.u8.wrap (gb (fpB x) 0 * 128))).toNat)
theorem ek (p : Nat → Int) (X Y Z T : Fp) (hp : PtEl p X Y Z T) (hz : Z ≠ 0) (w : World) : Rets Tryd.prog 13 [.agg (iv .u64 20 p).toArray] w (fun v w' => OwnB w' w.heap.size v (encB (X * inv Z) (Y * inv Z)) ∧ Keep [] w w') := by
 have hB : Keep [] w w := Keep.refl _ _
 refine a7 Tryd.func13 rfl (by decide) Tryd.ntmps13 rfl (fun fin _ hfin => aS (aR (a9 (bc (cs := [.int .u64 (p 0), .int .u64 (p 1), .int .u64 (p 2), .int .u64 (p 3), .int .u64 (p 4), .int .u64 (p 5), .int .u64 (p 6), .int .u64 (p 7), .int .u64 (p 8), .int .u64 (p 9), .int .u64 (p 10), .int .u64 (p 11), .int .u64 (p 12), .int .u64 (p 13), .int .u64 (p 14), .int .u64 (p 15), .int .u64 (p 16), .int .u64 (p 17), .int .u64 (p 18), .int .u64 (p 19)]) rfl rfl) rfl ?_)))
 rintro _ w1 ⟨b1, rfl, eb1, hb1, k1, z1⟩
 have ge_b1 : w.heap.size ≤ b1 := by have := hB.size; omega
 replace hB := hB.trans k1
 clear eb1 z1
 refine oga rfl rfl (aT (aS (aR (aU (aX (cs' := [_, _, _, _, _, _, _, _, _, _, _, _, _, _, _, _, _, _, _, _]) cq bA rfl hb1 rfl rfl) rfl (a9 (aV (vs := [_]) rfl (fb _ _ _ _ _ ⟨hp.1, hp.2.1, hp.2.2.1, hp.2.2.2⟩ hz _)) rfl ?_)))))
 rintro _ w2 ⟨hh1, rfl, E1, k2⟩
 obtain ⟨hB, hb1⟩ := bT k2 hB hb1
 refine a6 (ak bA rfl rfl rfl ad hb1 rfl) ?_
 rintro _ w3 ⟨hb2, k3, z2⟩
 replace hB := hB.new k3 (nw ge_b1)
 clear z2
 replace hb2 := et (g := hh1) hb2
 refine aT (aS (aR (aU (cT aE rfl aj (by decide) rfl) rfl (aU (aX (cs' := [_, _, _, _, _]) bG aj rfl hb2 rfl rfl) rfl (a9 (aV (vs := [_]) rfl (jL _ _ E1.2.2.1 _)) rfl ?_)))))
 rintro _ w4 ⟨hh2, rfl, E2, k4⟩
 obtain ⟨hB, hb2⟩ := bT k4 hB hb2
 refine a9 (ab aj) rfl ?_
 rintro _ w5 ⟨b2, rfl, eb2, hb3, k5, z3⟩
 have ge_b2 : w.heap.size ≤ b2 := by have := hB.size; omega
 have ne_b1_b2 : b1 ≠ b2 := by have := hb2.lt; omega
 obtain ⟨hB, hb2⟩ := bT k5 hB hb2
 clear eb2 z3
 refine a6 (ak aj rfl rfl rfl ad hb3 rfl) ?_
 rintro _ w6 ⟨hb4, k6, z4⟩
 replace hb2 := hb2.keep k6 (nm ne_b1_b2)
 replace hB := hB.new k6 (nw ge_b2)
 clear z4
 replace hb4 := cv (g := hh2) hb4
 refine aT (aS (aR (aU (cT aE rfl aj (by decide) rfl) rfl (aU (aX (cs' := [_, _, _, _, _]) bG aj rfl hb2 rfl rfl) rfl (aU (aX (cs' := [_, _, _, _, _]) bG aj rfl hb4 rfl rfl) rfl (a9 (aV (vs := [_, _]) rfl (az _ _ _ _ E1.2.1 E2 _)) rfl ?_))))))
 rintro _ w7 ⟨hh3, rfl, E3, k7⟩
 obtain ⟨hB, hb2, hb4⟩ := cX k7 hB hb2 hb4
 refine a9 (aV (vs := [_]) rfl (dr _ _ E3 _)) rfl ?_
 rintro v1 w8 ⟨o1, k8⟩
 have gl_o1 := hB.size
 obtain ⟨hB, hb2, hb4⟩ := cX k8 hB hb2 hb4
 have lnv1 := av (Y * (inv Z))
 refine oga rfl rfl (aT (aW [(1, _), (3, _), (4, _)] ⟨rfl, rfl, rfl, trivial⟩ (aS (bz 12 [0, 1, 2, 3, 4, 5, 6, 7, 8, 9, 10, 11] [6, 7] [] mixed [(4, _), (1, _), (3, _)] ⟨rfl, rfl, rfl, trivial⟩ (by decide +kernel) rfl (fun w9 k9 => ?_)))))
 obtain ⟨hb2, hb4⟩ := ik k9 hb2 hb4
 replace o1 := o1.pK k9
 replace hB := hB.trans k9
 refine cQ 4 rfl rfl rfl rfl rfl (ao 15 rfl rfl rfl rfl (fun W' kk => dV aB cZ rfl (o1.pK kk).rd rfl (by omega)) (ao 16 rfl rfl rfl rfl (fun W' kk => d7 j4 rfl (by first | exact Rd.pK ‹_› kk | exact Rd.pK (Own.rd ‹_›) kk | exact Rd.pK (Rd.pK ‹_› hB) kk | exact Rd.pK (Own.rd (Own.pK ‹_› hB)) kk) (by omega)) (ao 1 rfl rfl rfl rfl (fun W' kk => cT aE rfl aj (by decide) rfl) (ao 18 rfl rfl rfl rfl (fun W' kk => aX (cs' := [_, _, _, _, _]) bG aj rfl (Bk.pK hb2 kk) rfl rfl) (ao 3 rfl rfl rfl rfl (fun W' kk => aX (cs' := [_, _, _, _, _]) bG aj rfl (Bk.pK hb4 kk) rfl rfl) (bx [(19, _), (20, _)] rfl rfl ⟨rfl, rfl, trivial⟩ rfl (aV (vs := [_, _]) rfl (az _ _ _ _ E1.1 E2 _)) ?_))))))
 rintro _ w10 ⟨hh4, rfl, E4, k10⟩
 refine ⟨k10, ?_⟩
 replace o1 := o1.pK k10
 replace hB := hB.trans k10
 refine bx [(21, _)] rfl rfl ⟨rfl, trivial⟩ rfl (aV (vs := [_]) rfl (dr _ _ E4 _)) ?_
 rintro v2 w11 ⟨o2, k11⟩
 refine ⟨k11, ?_⟩
 replace o1 := o1.pK k11
 replace hB := hB.trans k11
 have lnv2 := av (X * (inv Z))
 refine ao 22 rfl rfl rfl rfl (fun W' kk => dV aB cZ rfl (o2.pK kk).rd rfl (by omega)) (ao 23 rfl rfl rfl rfl (fun W' kk => d7 j4 rfl (by first | exact Rd.pK ‹_› kk | exact Rd.pK (Own.rd ‹_›) kk | exact Rd.pK (Rd.pK ‹_› hB) kk | exact Rd.pK (Own.rd (Own.pK ‹_› hB)) kk) (by omega)) (ao 24 rfl rfl rfl rfl (fun W' kk => g_shlc (m := 128) rfl rfl (by decide) (by decide)) (ct 17 25 rfl rfl rfl rfl rfl (fun W' kk => du rfl rfl) (cS (aU (dV aB cZ rfl o1.rd rfl (by omega)) rfl (a6 (iO (u := .int .u8 _) cZ rfl rfl rfl o1 (by rw [bM, av]; decide)) ?_))))))
 rintro _ w99 ⟨ow2, k99, z99⟩
 replace hB := hB.new k99 (fun x hx => .inl (Nat.le_trans gl_o1 (o1.blk x hx).1))
 rw [j2 (ew (k := .u8) rfl rfl)] at ow2
 refine aT (aW [(4, _)] ⟨rfl, trivial⟩ (aS (aR (ogm rfl rfl (oga rfl rfl (aT (bD hfin Tryd.results13 rfl ?_)))))))
 exact ⟨(by unfold OwnB encB; rw [List.length_set]; exact ow2.lo gl_o1), hB⟩
attribute [local irreducible] encB
theorem nC (p q : Nat → Int) (X1 Y1 Z1 T1 X2 Y2 Z2 T2 : Fp) (hp : PtEl p X1 Y1 Z1 T1) (hz1 : Z1 ≠ 0) (hq : PtEl q X2 Y2 Z2 T2) (hz2 : Z2 ≠ 0) (w : World) : Rets Tryd.prog 18 [.agg (iv .u64 20 p).toArray, .agg (iv .u64 20 q).toArray] w (fun v w' => v = .bool (decide (encB (X1 * inv Z1) (Y1 * inv Z1) = encB (X2 * inv Z2) (Y2 * inv Z2))) ∧ Keep [] w w') := by
 have hB : Keep [] w w := Keep.refl _ _
 refine a7 Tryd.func18 rfl (by decide) Tryd.ntmps18 rfl (fun fin _ hfin => aS (aR (a9 (bc (cs := [.int .u64 (p 0), .int .u64 (p 1), .int .u64 (p 2), .int .u64 (p 3), .int .u64 (p 4), .int .u64 (p 5), .int .u64 (p 6), .int .u64 (p 7), .int .u64 (p 8), .int .u64 (p 9), .int .u64 (p 10), .int .u64 (p 11), .int .u64 (p 12), .int .u64 (p 13), .int .u64 (p 14), .int .u64 (p 15), .int .u64 (p 16), .int .u64 (p 17), .int .u64 (p 18), .int .u64 (p 19)]) rfl rfl) rfl ?_)))
 rintro _ w1 ⟨b1, rfl, eb1, hb1, k1, z1⟩
 replace hB := hB.trans k1
 clear eb1 z1
 refine a9 (bc (cs := [.int .u64 (q 0), .int .u64 (q 1), .int .u64 (q 2), .int .u64 (q 3), .int .u64 (q 4), .int .u64 (q 5), .int .u64 (q 6), .int .u64 (q 7), .int .u64 (q 8), .int .u64 (q 9), .int .u64 (q 10), .int .u64 (q 11), .int .u64 (q 12), .int .u64 (q 13), .int .u64 (q 14), .int .u64 (q 15), .int .u64 (q 16), .int .u64 (q 17), .int .u64 (q 18), .int .u64 (q 19)]) rfl rfl) rfl ?_
 rintro _ w2 ⟨b2, rfl, eb2, hb2, k2, z2⟩
 obtain ⟨hB, hb1⟩ := bT k2 hB hb1
 clear eb2 z2
 refine oga rfl rfl (aT (aS (bz 5 [0, 2, 1, 3, 4] [1, 3, 4] [] mixed [(2, _), (3, _), (4, _)] ⟨rfl, rfl, rfl, trivial⟩ (by decide +kernel) rfl (fun w3 k3 => ?_))))
 obtain ⟨hB, hb1, hb2⟩ := cX k3 hB hb1 hb2
 refine ao 2 rfl rfl rfl rfl (fun W' kk => aX (cs' := [_, _, _, _, _, _, _, _, _, _, _, _, _, _, _, _, _, _, _, _]) cq bA rfl (Bk.pK hb1 kk) rfl rfl) (ao 3 rfl rfl rfl rfl (fun W' kk => aX (cs' := [_, _, _, _, _, _, _, _, _, _, _, _, _, _, _, _, _, _, _, _]) cq bA rfl (Bk.pK hb2 kk) rfl rfl) (bx [(5, _)] rfl rfl ⟨rfl, trivial⟩ rfl (aV (vs := [_]) rfl (ek _ _ _ _ _ ⟨hp.1, hp.2.1, hp.2.2.1, hp.2.2.2⟩ hz1 _)) ?_))
 rintro v1 w4 ⟨o1, k4⟩
 refine ⟨k4, ?_⟩
 replace hB := hB.trans k4
 refine bx [(7, _)] rfl rfl ⟨rfl, trivial⟩ rfl (aV (vs := [_]) rfl (ek _ _ _ _ _ ⟨hq.1, hq.2.1, hq.2.2.1, hq.2.2.2⟩ hz2 _)) ?_
 rintro v2 w5 ⟨o2, k5⟩
 refine ⟨k5, ?_⟩
 replace o1 := o1.pK k5
 replace hB := hB.trans k5
 refine bx [(6, _), (8, _)] rfl rfl ⟨rfl, rfl, trivial⟩ rfl (aV (vs := [_, _]) rfl (ir _ _ (encB (X1 * inv Z1) (Y1 * inv Z1)) (encB (X2 * inv Z2) (Y2 * inv Z2)) _ o1.rd o2.rd)) ?_
 rintro _ w6 ⟨rfl, k6⟩
 refine ⟨k6, ?_⟩
 replace hB := hB.trans k6
 refine cS (oga rfl rfl (aT (bD hfin Tryd.results18 rfl ?_)))
 exact ⟨rfl, hB⟩
end Go.Proofs.YtllmbkmghmmhfaaDoor.W
namespace Go.Proofs.YtllmbkmghmmhfaaDoor.W
open Go Go.Eng Go.Byt
open Go.Fld Go.Ed
def mxB (xs : List UInt8) : Nat → Int
 | 0 => gb xs 0
 | i + 1 => if gb xs ((i + 1 : Nat) : Int) > mxB xs i then gb xs ((i + 1 : Nat) : Int) else mxB xs i
theorem nz (xs : List UInt8) : ∀ i, 0 ≤ mxB xs i
 | 0 => (cc xs 0).1
 | i + 1 => by
   have := cc xs ((i + 1 : Nat) : Int)
   have := nz xs i
   unfold mxB; split <;> omega
theorem kC (xs : List UInt8) : ∀ i, mxB xs i = 0 ↔ ∀ j : Nat, j ≤ i → gb xs j = 0
 | 0 => ⟨fun h j hj => by obtain rfl : j = 0 := by omega
                          exact h, fun h => h 0 (Nat.le_refl _)⟩
 | i + 1 => by
   have ih := kC xs i
   have g := cc xs ((i + 1 : Nat) : Int)
   have hn := nz xs i
   constructor
   · intro h j hj
     unfold mxB at h
     by_cases hji : j ≤ i
     · exact ih.1 (by split at h <;> omega) j hji
     · obtain rfl : j = i + 1 := by omega
       split at h <;> omega
   · intro h
     unfold mxB
     rw [h (i + 1) (Nat.le_refl _), ih.2 (fun j hj => h j (by omega))]; rfl
theorem ny {xs : List UInt8} {m i : Int} (h1 : 1 ≤ i) (h : m = mxB xs (i - 1).toNat) : (if gb xs i > m then gb xs i else m) = mxB xs (i + 1 - 1).toNat := by
 subst h
 have e : (i + 1 - 1).toNat = (i - 1).toNat + 1 := by omega
 rw [e, mxB, show (((i - 1).toNat + 1 : Nat) : Int) = i by omega]
theorem oD (v : Value) (xs : List UInt8) (w : World) (hv : RdB w v xs) (hx : 0 < xs.length) : Rets Tryd.prog 42 [v] w (fun r w' => r = .int .u8 (mxB xs ((xs.length : Int) - 1).toNat) ∧ Keep [] w w') := by
 have hB : Keep [] w w := Keep.refl _ _
 have hle := hv.le
 refine a7 Tryd.func42 rfl (by decide) Tryd.ntmps42 rfl (fun fin _ hfin => aS (aR (oga rfl rfl (aT (aS (aS (aR (ogm rfl rfl (aU (bp aB rfl (by first | assumption | exact Own.rd ‹_› | exact Rd.pK ‹_› hB | exact Own.rd (Own.pK ‹_› hB))) rfl (aU (bW rfl rfl) rfl (aT (cU rfl (by omega) (a8 (aS (aR (ogm rfl rfl (aU (dV aB cZ rfl (by first | assumption | exact Own.rd ‹_› | exact Rd.pK ‹_› hB | exact Own.rd (Own.pK ‹_› hB)) rfl (by omega)) rfl (aU (d7 j4 rfl (by first | assumption | exact Own.rd ‹_› | exact Rd.pK ‹_› hB | exact Own.rd (Own.pK ‹_› hB)) (by omega)) rfl (oga rfl rfl (aT (aS (aS (aR (oga rfl rfl (aT (a5 (bi (Γ := Int × Int) (fun ⟨i, m⟩ => [(0, v), (3, .int .u8 m), (4, .int .i64 i)]) (fun ⟨i, m⟩ W => 1 ≤ i ∧ i ≤ xs.length ∧ m = mxB xs (i - 1).toNat ∧ Keep [] w W) (fun ⟨i, m⟩ => (xs.length - i).toNat) ⟨1, gb xs 0⟩ ⟨rfl, rfl, rfl, trivial⟩ (⟨by decide, by omega, rfl, hB⟩) ?_)))))))))))))))))))))))))))
 rintro ⟨i, m⟩ w1 ⟨hi0, hi1, hall, hB⟩
 refine aW [(0, v), (3, .int .u8 m), (4, .int .i64 i)] ⟨rfl, rfl, rfl, trivial⟩ (aS (aS (aR (ogm rfl rfl (ogm rfl rfl (aU (bp aB rfl (by first | assumption | exact Own.rd ‹_› | exact Rd.pK ‹_› hB | exact Own.rd (Own.pK ‹_› hB))) rfl (aU (bW rfl rfl) rfl (aT (bo rfl (fun hc1 => ?_) (fun hc1 => ?_))))))))))
 ·
  refine a8 (aS (a5 (aR (ogm rfl rfl (ogm rfl rfl (ogm rfl rfl (aU (dV aB cZ rfl (by first | assumption | exact Own.rd ‹_› | exact Rd.pK ‹_› hB | exact Own.rd (Own.pK ‹_› hB)) rfl (by omega)) rfl (aU (d7 j4 rfl (by first | assumption | exact Own.rd ‹_› | exact Rd.pK ‹_› hB | exact Own.rd (Own.pK ‹_› hB)) (by omega)) rfl (aU (g_max rfl rfl) rfl (oga rfl rfl (aT (bg (aR (ogm rfl rfl (aU (cI rfl rfl (by omega)) rfl (oga rfl rfl (aT (cA (Γ := Int × Int) ⟨i + 1, _⟩ ⟨rfl, rfl, rfl, trivial⟩ (by (try dsimp only); omega) (⟨by omega, by omega, ny hi0 hall, hB⟩)))))))))))))))))))
 ·
  refine bE rfl (aS (aR (ogm rfl rfl (oga rfl rfl (aT (bD hfin Tryd.results42 rfl ?_))))))
  exact ⟨by rw [hall, show i - 1 = (xs.length : Int) - 1 by omega], hB⟩
theorem mg (x y : Int) (hx : In x 0 18446744073709551615) (hy : In y 0 18446744073709551615) (w : World) : Rets Tryd.prog 64 [.int .u64 x, .int .u64 y] w (fun v w' => v = .tuple #[.int .u64 (x * y / 18446744073709551616), .int .u64 (x * y % 18446744073709551616)] ∧ w = w') := by
 refine a7 Tryd.func64 rfl (by decide) Tryd.ntmps64 rfl (fun fin _ hfin => aS (aR (oga rfl rfl (oga rfl rfl (aT (aS (iW rfl (a8 (aS (aR (ogm rfl rfl (ogm rfl rfl (a9 (aV (vs := [_, _]) rfl (fz _ _ (In.wk hx rfl) (In.wk hy rfl) _)) rfl ?_)))))))))))))
 rintro _ _ ⟨rfl, rfl⟩
 refine ogm rfl rfl (ag (e' := (x * y / 18446744073709551616)) (lo := 0) (hi := 18446744073709551614) (ar (vs := [_, _]) rfl rfl) (rfl) (In.wk (bB (bZ hx hy (by decide) (by decide)) (by decide)) rfl) rfl (fun z1 h1 r1 => ag (e' := (x * y % 18446744073709551616)) (lo := 0) (hi := 18446744073709551615) (ar (vs := [_, _]) rfl rfl) (rfl) (In.wk (au _ (by decide)) rfl) rfl (fun z2 h2 r2 => oga rfl rfl (oga rfl rfl (aT (aS (aR (ogm rfl rfl (ogm rfl rfl (oga rfl rfl (oga rfl rfl (aT (dk hfin Tryd.results64 rfl rfl ?_)))))))))))))
 simp only [Eqn, In] at h1 r1 h2 r2
 exact ⟨by subst_vars; rfl, rfl⟩
theorem oB (w : World) : Rets Tryd.prog 64 [.int .u64 1, .int .u64 32] w (fun v w' => v = .tuple #[.int .u64 0, .int .u64 32] ∧ w = w') := mg 1 32 (by decide) (by decide) w
def repN (b : UInt8) (n : Nat) : List UInt8 := List.replicate n b ++ List.replicate (32 - n) 0
theorem jr (b : UInt8) (n : Nat) (h : n ≤ 32) : (repN b n).length = 32 := by unfold repN; simp; omega
theorem ne {n : Nat} {f : Fr} {w : World} {ty : TypeId} {x y : Operand} {lo nn : Nat} {q : Value} {b : UInt8} (hx : f.ev x = some (cut q nn 32 1)) (hy : f.ev y = some (cut q 0 nn 1)) (ho : Own w lo 5 1 q 32 (bv (repN b nn))) (h1 : 1 ≤ nn) (h2 : nn < 32) :
   Does Tryd.prog n f w (.call { callee := .builtin .copy, args := #[x, y], argTypes := #[22, 22] }) ty
     (fun r w' => r = .int .i64 ((min nn (32 - nn) : Nat) : Int) ∧ Own w' lo 5 1 q 32 (bv (repN b (nn + min nn (32 - nn)))) ∧ Keep (vblk q) w w' ∧ w'.heap.size = w.heap.size) := by
 have hr : RdB w q (repN b nn) := by unfold RdB; rw [jr _ _ (by omega)]; exact ho.rd
 have hc := hr.cutB (l := 0) (hi := nn) (by omega) (by rw [jr _ _ (by omega)]; omega)
 have e1 : ((repN b nn).drop 0).take (nn - 0) = List.replicate nn b := by unfold repN; simp
 rw [e1] at hc
 refine (d_cpAt aB cZ hx ho (by omega) hy hc (iQ _) (s := min nn (32 - nn)) (by rw [List.length_replicate]) (by omega)).mono ?_
 rintro r w' ⟨rfl, o, k, z⟩
 refine ⟨rfl, ?_, k, z⟩
 have e2 : (bv (repN b nn)).take nn ++ (bv (List.replicate nn b)).take (min nn (32 - nn)) ++ (bv (repN b nn)).drop (nn + min nn (32 - nn)) = bv (repN b (nn + min nn (32 - nn))) := by
   rw [g7, g7, lz, ← db, ← db]
   congr 1
   unfold repN
   rw [List.take_left' (by simp), List.take_replicate, List.drop_append, List.length_replicate, List.drop_eq_nil_of_le (by simp), List.nil_append, List.drop_replicate, Nat.min_eq_left (show min nn (32 - nn) ≤ nn by omega), ← List.replicate_append_replicate, show nn + min nn (32 - nn) - nn = min nn (32 - nn) by omega, show 32 - nn - min nn (32 - nn) = 32 - (nn + min nn (32 - nn)) by omega]
 rw [e2] at o; exact o
theorem km (v : Value) (b : UInt8) (w : World) (hv : Rd w 1 v 1 (bv [b])) : Rets Tryd.prog 52 [v, .int .i64 32] w (fun r w' => Own w' w.heap.size 5 1 r 32 (bv (repN b 32)) ∧ Keep [] w w') := by
  have hB : Keep [] w w := Keep.refl _ _
  refine a7 Tryd.func52 rfl (by decide) Tryd.ntmps52 rfl (fun fin _ hfin => aS (aR (oga rfl rfl (aT (aS (aS (aR (ogm rfl rfl ?_))))))))
  refine aU (bW rfl rfl) rfl (aT (cU rfl (by decide) (a8 (aS (aR (ogm rfl rfl (aU (bp aB rfl (by first | assumption | exact Own.rd (by assumption) | exact Rd.pK (by assumption) hB | exact Own.rd (Own.pK (by assumption) hB))) rfl (aU (aq (j := 1) (gC (by rw [aO]; rfl) Tryd.underlying58 rfl) (by decide)) rfl ?_))))))))
  refine ogm rfl rfl (aU (aq (j := 32) (gC (by rw [aO]; rfl) Tryd.underlying58 rfl) (by decide)) rfl (a9 (aV (vs := [_, _]) rfl (oB _)) rfl ?_))
  rintro _ _ ⟨rfl, rfl⟩
  refine ogm rfl rfl (aU (ar (vs := [_, _]) rfl rfl) rfl (aU (ar (vs := [_, _]) rfl rfl) rfl (oga rfl rfl (oga rfl rfl (aT (aS (aS (aR ?_))))))))
  refine ogm rfl rfl (aU (lA rfl rfl) rfl (ogm rfl rfl (fy 23 false rfl (fun c1 hgc1 => df [(6, _)] (dh rfl rfl rfl hgc1) ⟨fu rfl, trivial⟩ (fun hw1 => ax rfl) rfl (df [(24, _)] (dh rfl rfl rfl hgc1) ⟨eA rfl, trivial⟩ (fun hw2 => lA rfl rfl) rfl (aU (iB rfl rfl hgc1) rfl (aT (fS rfl (by decide) ?_))))))))
  refine a8 (aS (aR (ogm rfl rfl (aU (aq (j := 32) (gC (by rw [Tryd.underlying58]; rfl) aO rfl) (by decide)) rfl (a9 (mu aB cZ rfl rfl (by omega) (by constructor <;> omega)) rfl ?_)))))
  rintro q w1 ⟨o1, _, _, k1, _⟩
  have o2 : Own w1 w.heap.size 5 1 q 32 (List.replicate 32 (.int .u8 0)) := o1.lo hB.size
  clear o1
  replace hv := hv.pK k1
  replace hB := hB.trans k1
  obtain ⟨g, c, cur, rfl, hg, _, hcap1, hcap2, _, _⟩ := o2.raw (by simp)
  refine oga rfl rfl (aT (aS (aR (ogm rfl rfl (ogm rfl rfl (a9 (d_cp aB cZ rfl o2 rfl hv (iQ _) rfl) rfl ?_))))))
  rintro _ w2 ⟨rfl, o3, k2, z2⟩
  replace hB := hB.new k2 (nw hg)
  clear hv
  refine oga rfl rfl (aT (aS (a5 (bi (Γ := Nat) (fun i => [(7, .slice (some ⟨g, 0, none⟩) 32 c), (8, .int .i64 (i : Int))]) (fun i W => 1 ≤ i ∧ i ≤ 32 ∧ Own W w.heap.size 5 1 (.slice (some ⟨g, 0, none⟩) 32 c) 32 (bv (repN b i)) ∧ Keep [] w W) (fun i => 32 - i) 1 ⟨rfl, rfl, trivial⟩ (⟨by decide, by decide, o3, hB⟩) ?_))))
  rintro i w2 ⟨hi0, hi1, o4, hB⟩
  refine aW [(7, .slice (some ⟨g, 0, none⟩) 32 c), (8, .int .i64 (i : Int))] ⟨rfl, rfl, trivial⟩ (aS (aS (aR (ogm rfl rfl (ogm rfl rfl (aU (bp aB rfl (by first | assumption | exact Own.rd (by assumption) | exact Rd.pK (by assumption) hB | exact Own.rd (Own.pK (by assumption) hB))) rfl (aU (bW rfl rfl) rfl (aT ?_))))))))
  refine bo rfl (fun hc1 => ?_) (fun hc1 => ?_)
  · -- yes
    refine a8 (a5 (bJ 8 [0, 1, 2, 3, 4, 5, 6, 7] [7] [g] [] mixed [(7, _), (8, _)] ⟨rfl, rfl, trivial⟩ (by decide +kernel) (by decide) (by decide) ?_ (fun x hx => (List.mem_singleton.1 hx) ▸ (o4.blk g (by simp [vblk])).2) rfl (fun w5 k5 => ?_)))
    · intro q hq; cases hq
    replace o4 := o4.pK k5
    replace hB := hB.trans k5
    refine cK 8 rfl rfl rfl rfl rfl (cK 7 rfl rfl rfl rfl rfl (cK 8 rfl rfl rfl rfl rfl (dK 39 40 rfl rfl rfl rfl rfl (fun W' kk => g_slv aB cZ rfl hcap2 hcap1 (.inr ⟨_, _, rfl, rfl⟩) (.inl ⟨rfl, rfl⟩) (by omega)) (cK 7 rfl rfl rfl rfl rfl (cK 8 rfl rfl rfl rfl rfl (dK 42 43 rfl rfl rfl rfl rfl (fun W' kk => g_slv aB cZ rfl hcap2 hcap1 (.inl ⟨rfl, rfl⟩) (.inr ⟨_, _, rfl, rfl⟩) (by omega)) (bY [(41, _), (44, _)] rfl rfl ⟨rfl, rfl, trivial⟩ rfl (fun w6 k6 => ?_))))))))
    refine (ne rfl rfl (o4.pK k6) hi0 (by omega)).mono ?_
    rintro _ w6' ⟨rfl, o5, k6', z6⟩
    replace hB := (hB.trans k6).new k6' (nw hg)
    refine ⟨k6', nox, ?_⟩
    clear o4
    refine cC (fun w7 k7 => ?_)
    replace o5 := o5.pK k7
    replace hB := hB.trans k7
    refine bK (aU (cI rfl rfl (by omega)) rfl (oga rfl rfl (aT (bg (cA (Γ := Nat) (i + min i (32 - i)) ⟨rfl, rfl, trivial⟩ (by (try dsimp only); omega) (⟨by omega, by omega, o5, hB⟩))))))
  · -- no
    refine bE rfl (aS (aR (ogm rfl rfl (oga rfl rfl (aT (bD hfin Tryd.results52 rfl ?_))))))
    obtain rfl : i = 32 := by omega
    exact ⟨o4, hB⟩
attribute [local irreducible] encB
def decLow (xs : List UInt8) : List UInt8 := xs.set 31 (UInt8.ofNat (bits .andNot .u8 (gb xs 31) 128).toNat)
def decY (xs : List UInt8) : Fp := fp (leI (decLow xs))
def decOdd (xs : List UInt8) : Bool := decide (gb xs 31 / 128 = 1)
def decU (y : Fp) : Fp := y * y - fp 1
def decV (y : Fp) : Fp := d * (y * y) + fp 1
def decE (xs : List UInt8) : Int := if xs.length ≠ 32 then 1 else if fpB (decY xs) ≠ decLow xs then 30 else if (!rootOk (decU (decY xs)) (decV (decY xs)) || (decOdd xs && decide (rootF (decU (decY xs)) (decV (decY xs)) = 0))) = true then 30 else 0
def decX (xs : List UInt8) : Fp := if decOdd xs = true then 0 - rootF (decU (decY xs)) (decV (decY xs)) else rootF (decU (decY xs)) (decV (decY xs))
theorem lI (xs : List UInt8) (hx : xs.length = 32) : (decLow xs).length = 32 := by unfold decLow; rw [List.length_set, hx]
theorem eT (a : Fp) : fp (leI (fpB a)) = a := by
 have h := a.isLt
 have hp : (P : Int) < 256 ^ 32 := by decide +kernel
 unfold fpB
 rw [fY 32 (a.val : Int) (by omega) (by omega), fp_self]
theorem kO (a : Fp) : (∀ j : Nat, j ≤ 31 → gb (fpB a) j = 0) ↔ a = 0 := by
 constructor
 · intro h
   refine lr (List.ext_getElem (by rw [av, av]) (fun j h1 h2 => ?_))
   have g := h j (by rw [av] at h1; omega)
   have g0 : gb (fpB (0 : Fp)) j = 0 := by
     have hj : j < 32 := by rwa [av] at h1
     have : ∀ j : Nat, j < 32 → gb (fpB (0 : Fp)) (j : Int) = 0 := by decide +kernel
     exact this j hj
   unfold gb at g g0
   rw [Int.toNat_natCast, List.getD_eq_getElem?_getD, List.getElem?_eq_getElem h1] at g
   rw [Int.toNat_natCast, List.getD_eq_getElem?_getD, List.getElem?_eq_getElem h2] at g0
   simp only [Option.getD_some] at g g0
   exact UInt8.toNat_inj.1 (by omega)
 · rintro rfl
   have : ∀ j : Nat, j < 32 → gb (fpB (0 : Fp)) (j : Int) = 0 := by decide +kernel
   intro j hj; exact this j (by omega)
theorem mx_fpB (a : Fp) : decide (mxB (fpB a) (((fpB a).length : Int) - 1).toNat = 0) = decide (a = 0) := by
 rw [av]
 exact decide_eq_decide.2 ((kC _ _).trans (kO a))
theorem dec_e1 {xs : List UInt8} (hx : xs.length = 32) (h : ¬ fpB (fp (leI (decLow xs))) = decLow xs) : decE xs = 30 := by
 unfold decE decY; rw [if_neg (by omega), if_pos h]
theorem ou {xs : List UInt8} {z : Int} {c : Bool} {U V : Fp} (hz : Eqn z (gb xs 31 / 128)) (hU : U = decU (decY xs)) (hV : V = decV (decY xs))
   (h : (!rootOk (fp (leI (fpB U))) (fp (leI (fpB V))) || decide (z = 1) && decide (mxB (fpB (rootF (fp (leI (fpB U))) (fp (leI (fpB V))))) (((fpB (rootF (fp (leI (fpB U))) (fp (leI (fpB V))))).length : Int) - 1).toNat = 0)) = c) :
   (!rootOk (decU (decY xs)) (decV (decY xs)) || (decOdd xs && decide (rootF (decU (decY xs)) (decV (decY xs)) = 0))) = c := by
 unfold Eqn at hz
 subst hz hU hV
 rw [mx_fpB, eT, eT] at h
 exact h
theorem dec_e2 {xs : List UInt8} {z : Int} (hx : xs.length = 32) (h1 : ¬¬ fpB (fp (leI (decLow xs))) = decLow xs) (h : (!rootOk (decU (decY xs)) (decV (decY xs)) || (decOdd xs && decide (rootF (decU (decY xs)) (decV (decY xs)) = 0))) = true) : decE xs = 30 := by
 have h1 : ¬ fpB (decY xs) ≠ decLow xs := h1
 unfold decE; rw [if_neg (by omega), if_neg h1, if_pos h]
theorem oo {xs : List UInt8} {z : Int} (hx : xs.length = 32) (h1 : ¬¬ fpB (fp (leI (decLow xs))) = decLow xs) (h : (!rootOk (decU (decY xs)) (decV (decY xs)) || (decOdd xs && decide (rootF (decU (decY xs)) (decV (decY xs)) = 0))) = false) : decE xs = 0 := by
 have h1 : ¬ fpB (decY xs) ≠ decLow xs := h1
 unfold decE; rw [if_neg (by omega), if_neg h1, if_neg (by rw [h]; decide)]
theorem dec_xT {xs : List UInt8} {z : Int} {U V : Fp} (hz : Eqn z (gb xs 31 / 128)) (hU : U = decU (decY xs)) (hV : V = decV (decY xs)) (h : z = 1) : decX xs = 0 - fp (leI (fpB (rootF (fp (leI (fpB U))) (fp (leI (fpB V)))))) := by
 unfold Eqn at hz
 subst hU hV
 rw [eT, eT, eT]
 unfold decX
 rw [if_pos (by unfold decOdd; rw [← hz]; exact decide_eq_true h)]
theorem dec_xF {xs : List UInt8} {z : Int} {U V : Fp} (hz : Eqn z (gb xs 31 / 128)) (hU : U = decU (decY xs)) (hV : V = decV (decY xs)) (h : ¬ z = 1) : decX xs = fp (leI (fpB (rootF (fp (leI (fpB U))) (fp (leI (fpB V)))))) := by
 unfold Eqn at hz
 subst hU hV
 rw [eT, eT, eT]
 unfold decX
 rw [if_neg (by unfold decOdd; rw [← hz, decide_eq_false h]; decide)]
theorem iU (v : Value) (xs : List UInt8) (w : World) (hv : RdB w v xs) (hx : xs.length = 32) : Rets Tryd.prog 15 [v] w (fun v w' => ∃ p, v = .tuple #[.agg (iv .u64 20 p).toArray, .int .i64 (decE xs)] ∧ (decE xs = 0 → PtEl p (decX xs) (decY xs) (fp 1) (decX xs * decY xs)) ∧ (decE xs ≠ 0 → p = fun _ => 0) ∧ Keep [] w w') := by
 have hB : Keep [] w w := Keep.refl _ _
 refine a7 Tryd.func15 rfl (by decide) Tryd.ntmps15 rfl (fun fin _ hfin => aS (aR (a9 (ab bA) rfl ?_)))
 rintro _ w1 ⟨b1, rfl, eb1, hb1, k1, z1⟩
 have ge_b1 : w.heap.size ≤ b1 := by have := hB.size; omega
 replace hB := hB.trans k1
 clear eb1 z1
 refine oga rfl rfl (aT (aS (aS (aR (ogm rfl rfl (aU (bp aB rfl (by first | assumption | exact Own.rd ‹_› | exact Rd.pK ‹_› hB | exact Own.rd (Own.pK ‹_› hB))) rfl (aU (dU rfl rfl) rfl (aT (cU rfl (by omega) (a8 (aS (aR (ogm rfl rfl (aU (dV aB cZ rfl (by first | assumption | exact Own.rd ‹_› | exact Rd.pK ‹_› hB | exact Own.rd (Own.pK ‹_› hB)) rfl (by omega)) rfl (aU (d7 j4 rfl (by first | assumption | exact Own.rd ‹_› | exact Rd.pK ‹_› hB | exact Own.rd (Own.pK ‹_› hB)) (by omega)) rfl (ag (e' := (gb xs (31)) / 128) (lo := 0) (hi := 1) (bl (m := 128) rfl rfl (by decide) rfl) (rfl) (In.wk (bB (cc xs (31)) (by decide)) rfl) rfl (fun z2 h1 r1 => aU (gR rfl rfl) rfl (oga rfl rfl (aT (aS (aR (ogm rfl rfl (a9 (aV (vs := [_]) rfl (is _ xs _ (by first | assumption | exact Own.rd ‹_› | exact Rd.pK ‹_› hB | exact Own.rd (Own.pK ‹_› hB)) (by omega))) rfl ?_)))))))))))))))))))))))
 rintro v1 w2 ⟨o1, k2, _⟩
 have gl_o1 := hB.size
 have sb_b1_o1 := fun x hx => (show x ≠ b1 from by have h1 := (o1.blk x hx).1; have h2 := hb1.lt; omega)
 obtain ⟨hB, hb1⟩ := bT k2 hB hb1
 refine oga rfl rfl (aT (aW [(2, _), (4, _), (5, _)] ⟨rfl, rfl, rfl, trivial⟩ (aS (aR (ogm rfl rfl (aU (dV aB cZ rfl o1.rd rfl (by omega)) rfl (aU (d7 j4 rfl (by first | assumption | exact Own.rd ‹_› | exact Rd.pK ‹_› hB | exact Own.rd (Own.pK ‹_› hB)) (by omega)) rfl (aU (iD rfl rfl) rfl (aU (dV aB cZ rfl o1.rd rfl (by omega)) rfl (a6 (iO (u := .int .u8 _) cZ rfl rfl rfl o1 (by rw [bM, hx]; decide)) ?_))))))))))
 rintro _ w99 ⟨ow2, k99, z99⟩
 replace hB := hB.new k99 (fun x hx => .inl (Nat.le_trans gl_o1 (o1.blk x hx).1))
 replace ow2 : OwnB w99 w.heap.size v1 (decLow xs) := by unfold OwnB decLow; rw [List.length_set, ← j2 (mA (k := .u8) rfl _ _ _)]; exact ow2.lo gl_o1
 replace hb1 := hb1.keep k99 (fun hm => sb_b1_o1 _ hm rfl)
 refine aT (aS (aR (ogm rfl rfl (a9 (aV (vs := [_]) rfl (iE _ (decLow xs) _ ow2.rd (lI xs hx))) rfl ?_))))
 rintro _ w3 ⟨hh1, rfl, E1, k3⟩
 replace hb1 := hb1.pK k3
 replace ow2 := ow2.pK k3
 replace hB := hB.trans k3
 refine ogm rfl rfl (aU (ar (vs := [_, _]) rfl rfl) rfl (aU (ar (vs := [_, _]) rfl rfl) rfl (a9 (ab aj) rfl ?_)))
 rintro _ w4 ⟨b2, rfl, eb2, hb2, k4, z3⟩
 have ge_b2 : w.heap.size ≤ b2 := by have := hB.size; omega
 have ne_b1_b2 : b1 ≠ b2 := by have := hb1.lt; omega
 have sb_b2_ow2 := fun x hx => (show x ≠ b2 from by have := (ow2.blk x hx).2; omega)
 replace hb1 := hb1.pK k4
 replace ow2 := ow2.pK k4
 replace hB := hB.trans k4
 clear eb2 z3
 refine a6 (ak aj rfl rfl rfl ad hb2 rfl) ?_
 rintro _ w5 ⟨hb3, k5, z4⟩
 replace hb1 := hb1.keep k5 (nm ne_b1_b2)
 replace ow2 := ow2.keep k5 (fun x hx hm => sb_b2_ow2 x hx (List.mem_singleton.1 hm))
 replace hB := hB.new k5 (nw ge_b2)
 clear z4
 replace hb3 := cv (g := hh1) hb3
 refine oga rfl rfl (aT (aW [(2, _), (4, _), (5, _), (6, _)] ⟨rfl, rfl, rfl, rfl, trivial⟩ (aS (aS (aR (aU (aX (cs' := [_, _, _, _, _]) bG aj rfl hb3 rfl rfl) rfl (a9 (aV (vs := [_]) rfl (dr _ _ E1 _)) rfl ?_)))))))
 rintro v2 w6 ⟨o2, k6⟩
 replace hb1 := hb1.pK k6
 replace ow2 := ow2.pK k6
 obtain ⟨hB, hb3⟩ := bT k6 hB hb3
 refine ogm rfl rfl (a9 (aV (vs := [_, _]) rfl (ir _ _ (fpB (fp (leI (decLow xs)))) (decLow xs) _ o2.rd ow2.rd)) rfl ?_)
 rintro _ w7 ⟨rfl, k7⟩
 replace hb1 := hb1.pK k7
 replace ow2 := ow2.pK k7
 obtain ⟨hB, hb3⟩ := bT k7 hB hb3
 refine aU (eh rfl) rfl (aT (bo rfl (fun hc1 => ?_) (fun hc1 => ?_)))
 ·
  refine aS (aR (aU (cd (idx := []) (xs := []) (vs := []) (css := []) (out := [_, _, _, _, _, _, _, _, _, _, _, _, _, _, _, _, _, _, _, _]) jw bA rfl rfl trivial rfl rfl) rfl (a6 (ak bA rfl rfl rfl (by simp only [List.forall_mem_cons]; refine ⟨rfl, rfl, rfl, rfl, rfl, rfl, rfl, rfl, rfl, rfl, rfl, rfl, rfl, rfl, rfl, rfl, rfl, rfl, rfl, rfl, fun v hv => by cases hv⟩) hb1 rfl) ?_)))
  rintro _ w8 ⟨hb4, k8, z5⟩
  replace ow2 := ow2.keep k8 (fun x hx hm => sb_b1_o1 x hx (List.mem_singleton.1 hm))
  replace hb3 := hb3.keep k8 (nm (Ne.symm ne_b1_b2))
  replace hB := hB.new k8 (nw ge_b1)
  clear z5
  replace hb4 : Bk w8 b1 _ [.int .u64 0, .int .u64 0, .int .u64 0, .int .u64 0, .int .u64 0, .int .u64 0, .int .u64 0, .int .u64 0, .int .u64 0, .int .u64 0, .int .u64 0, .int .u64 0, .int .u64 0, .int .u64 0, .int .u64 0, .int .u64 0, .int .u64 0, .int .u64 0, .int .u64 0, .int .u64 0] := hb4
  refine oga rfl rfl (aT (cR hfin Tryd.results15 rfl (ae cq bA hb4 rfl) rfl ?_))
  have he := dec_e1 hx hc1
  exact ⟨fun _ => 0, by rw [he]; rfl, fun h => by rw [he] at h; exact absurd h (by decide), fun _ => rfl, hB⟩
 ·
  refine a8 (aS (aR (a9 (aV (vs := [_]) rfl (gF _ (by decide) _)) rfl ?_)))
  rintro _ w9 ⟨hh2, rfl, E2, k9⟩
  replace hb1 := hb1.pK k9
  replace ow2 := ow2.pK k9
  obtain ⟨hB, hb3⟩ := bT k9 hB hb3
  refine a9 (ab aj) rfl ?_
  rintro _ w10 ⟨b3, rfl, eb3, hb5, k10, z6⟩
  have ge_b3 : w.heap.size ≤ b3 := by have := hB.size; omega
  have ne_b1_b3 : b1 ≠ b3 := by have := hb1.lt; omega
  have sb_b3_ow2 := fun x hx => (show x ≠ b3 from by have := (ow2.blk x hx).2; omega)
  have ne_b2_b3 : b2 ≠ b3 := by have := hb3.lt; omega
  replace hb1 := hb1.pK k10
  replace ow2 := ow2.pK k10
  obtain ⟨hB, hb3⟩ := bT k10 hB hb3
  clear eb3 z6
  refine a6 (ak aj rfl rfl rfl ad hb5 rfl) ?_
  rintro _ w11 ⟨hb6, k11, z7⟩
  replace hb1 := hb1.keep k11 (nm ne_b1_b3)
  replace ow2 := ow2.keep k11 (fun x hx hm => sb_b3_ow2 x hx (List.mem_singleton.1 hm))
  replace hb3 := hb3.keep k11 (nm ne_b2_b3)
  replace hB := hB.new k11 (nw ge_b3)
  clear z7
  replace hb6 := cv (g := hh2) hb6
  refine aT (aS (aR (aU (aX (cs' := [_, _, _, _, _]) bG aj rfl hb3 rfl rfl) rfl (aU (aX (cs' := [_, _, _, _, _]) bG aj rfl hb3 rfl rfl) rfl (a9 (aV (vs := [_, _]) rfl (az _ _ _ _ E1 E1 _)) rfl ?_)))))
  rintro _ w12 ⟨hh3, rfl, E3, k12⟩
  replace hb1 := hb1.pK k12
  replace ow2 := ow2.pK k12
  obtain ⟨hB, hb3, hb6⟩ := cX k12 hB hb3 hb6
  refine a9 (ab aj) rfl ?_
  rintro _ w13 ⟨b4, rfl, eb4, hb7, k13, z8⟩
  have ge_b4 : w.heap.size ≤ b4 := by have := hB.size; omega
  have ne_b1_b4 : b1 ≠ b4 := by have := hb1.lt; omega
  have sb_b4_ow2 := fun x hx => (show x ≠ b4 from by have := (ow2.blk x hx).2; omega)
  have ne_b2_b4 : b2 ≠ b4 := by have := hb3.lt; omega
  have ne_b3_b4 : b3 ≠ b4 := by have := hb6.lt; omega
  replace hb1 := hb1.pK k13
  replace ow2 := ow2.pK k13
  obtain ⟨hB, hb3, hb6⟩ := cX k13 hB hb3 hb6
  clear eb4 z8
  refine a6 (ak aj rfl rfl rfl ad hb7 rfl) ?_
  rintro _ w14 ⟨hb8, k14, z9⟩
  replace hb1 := hb1.keep k14 (nm ne_b1_b4)
  replace ow2 := ow2.keep k14 (fun x hx hm => sb_b4_ow2 x hx (List.mem_singleton.1 hm))
  replace hb3 := hb3.keep k14 (nm ne_b2_b4)
  replace hb6 := hb6.keep k14 (nm ne_b3_b4)
  replace hB := hB.new k14 (nw ge_b4)
  clear z9
  replace hb8 := cv (g := hh3) hb8
  refine aT (aW [(2, _), (4, _), (6, _), (8, _), (9, _)] ⟨rfl, rfl, rfl, rfl, rfl, trivial⟩ (aS (bz 17 [0, 1, 5, 7, 2, 3, 4, 6, 8, 9, 10, 11, 12, 13, 14, 15, 16] [2, 3, 4, 6, 8, 9, 10] [] mixed [(9, _), (8, _), (2, _), (4, _), (6, _)] ⟨rfl, rfl, rfl, rfl, rfl, trivial⟩ (by decide +kernel) rfl (fun w15 k15 => ?_))))
  replace hb1 := hb1.pK k15
  replace ow2 := ow2.pK k15
  obtain ⟨hB, hb3, hb6, hb8⟩ := cy k15 hB hb3 hb6 hb8
  refine ao 9 rfl rfl rfl rfl (fun W' kk => aX (cs' := [_, _, _, _, _]) bG aj rfl (Bk.pK hb8 kk) rfl rfl) (ao 8 rfl rfl rfl rfl (fun W' kk => aX (cs' := [_, _, _, _, _]) bG aj rfl (Bk.pK hb6 kk) rfl rfl) (ao 9 rfl rfl rfl rfl (fun W' kk => aX (cs' := [_, _, _, _, _]) bG aj rfl (Bk.pK hb8 kk) rfl rfl) (ao 8 rfl rfl rfl rfl (fun W' kk => aX (cs' := [_, _, _, _, _]) bG aj rfl (Bk.pK hb6 kk) rfl rfl) (bx [(46, _), (47, _)] rfl rfl ⟨rfl, rfl, trivial⟩ rfl (aV (vs := [_, _]) rfl (dL _ _ _ _ E3 E2 _)) ?_))))
  rintro _ w16 ⟨hh4, rfl, E4, k16⟩
  refine ⟨k16, ?_⟩
  replace hb1 := hb1.pK k16
  replace ow2 := ow2.pK k16
  obtain ⟨hB, hb3⟩ := bT k16 hB hb3
  refine bx [(48, _)] rfl rfl ⟨rfl, trivial⟩ rfl (aV (vs := [_]) rfl (dr _ _ E4 _)) ?_
  rintro v3 w17 ⟨o3, k17⟩
  refine ⟨k17, ?_⟩
  replace hb1 := hb1.pK k17
  replace ow2 := ow2.pK k17
  obtain ⟨hB, hb3⟩ := bT k17 hB hb3
  refine bx [] rfl rfl trivial rfl (aV (vs := []) rfl (kp _)) ?_
  rintro _ w18 ⟨hh5, rfl, E5, k18⟩
  refine ⟨k18, ?_⟩
  replace hb1 := hb1.pK k18
  replace ow2 := ow2.pK k18
  replace hb3 := hb3.pK k18
  replace o3 := o3.pK k18
  replace hB := hB.trans k18
  refine bx [(50, _), (51, _)] rfl rfl ⟨rfl, rfl, trivial⟩ rfl (aV (vs := [_, _]) rfl (az _ _ _ _ E5 E3 _)) ?_
  rintro _ w19 ⟨hh6, rfl, E6, k19⟩
  refine ⟨k19, ?_⟩
  replace hb1 := hb1.pK k19
  replace ow2 := ow2.pK k19
  replace hb3 := hb3.pK k19
  replace o3 := o3.pK k19
  replace hB := hB.trans k19
  refine bx [(52, _), (53, _)] rfl rfl ⟨rfl, rfl, trivial⟩ rfl (aV (vs := [_, _]) rfl (cz _ _ _ _ E6 E2 _)) ?_
  rintro _ w20 ⟨hh7, rfl, E7, k20⟩
  refine ⟨k20, ?_⟩
  replace hb1 := hb1.pK k20
  replace ow2 := ow2.pK k20
  replace hb3 := hb3.pK k20
  replace o3 := o3.pK k20
  replace hB := hB.trans k20
  refine bx [(54, _)] rfl rfl ⟨rfl, trivial⟩ rfl (aV (vs := [_]) rfl (dr _ _ E7 _)) ?_
  rintro v4 w21 ⟨o4, k21⟩
  refine ⟨k21, ?_⟩
  replace hb1 := hb1.pK k21
  replace ow2 := ow2.pK k21
  replace hb3 := hb3.pK k21
  replace o3 := o3.pK k21
  replace hB := hB.trans k21
  refine bx [(49, _), (55, _)] rfl rfl ⟨rfl, rfl, trivial⟩ rfl (aV (vs := [_, _]) rfl (pJ _ _ (fpB (((fp (leI (decLow xs))) * (fp (leI (decLow xs)))) - (fp 1))) (fpB (((d) * ((fp (leI (decLow xs))) * (fp (leI (decLow xs))))) + (fp 1))) _ o3.rd (av _) o4.rd (av _))) ?_
  rintro _ w22 ⟨v5, rfl, o5, k22⟩
  refine ⟨k22, ?_⟩
  have sb_b1_o5 := fun x hx => (show x ≠ b1 from by have h1 := (o5.blk x hx).1; have h2 := hb1.lt; omega)
  replace hb1 := hb1.pK k22
  replace ow2 := ow2.pK k22
  obtain ⟨hB, hb3⟩ := bT k22 hB hb3
  refine cQ 56 rfl rfl rfl rfl rfl (ao 45 rfl rfl rfl rfl (fun W' kk => ar (vs := [_, _, _]) rfl rfl) (ao 45 rfl rfl rfl rfl (fun W' kk => ar (vs := [_, _, _]) rfl rfl) (ao 45 rfl rfl rfl rfl (fun W' kk => ar (vs := [_, _, _]) rfl rfl) (ao 57 rfl rfl rfl rfl (fun W' kk => fK rfl) (ao 58 rfl rfl rfl rfl (fun W' kk => fK rfl) (cS (oga rfl rfl (aT (aW [(2, _), (4, _), (6, _), (0, _), (10, _)] ⟨rfl, rfl, rfl, rfl, rfl, trivial⟩ (aS (aS (aR (ogm rfl rfl (aU (iq rfl) rfl ?_))))))))))))))
  refine ogm rfl rfl (fy 62 false rfl (fun c1 hgc1 => df [(4, _)] (dh rfl rfl rfl hgc1) ⟨fu rfl, trivial⟩ (fun hw1 => ax rfl) rfl (df [(63, _)] (dh rfl rfl rfl hgc1) ⟨eA rfl, trivial⟩ (fun hw2 => ax rfl) rfl (ow_grp2 64 true rfl (fun c2 hgc2 => df [(0, _)] (jS rfl rfl rfl hgc2) ⟨fu rfl, trivial⟩ (fun hw3 => ax rfl) rfl (nr [(65, _)] (jS rfl rfl rfl hgc2) ⟨eA rfl, trivial⟩ (fun hw4 => aV (vs := [_]) rfl (oD _ (fpB (rootF (fp (leI (fpB (((fp (leI (decLow xs))) * (fp (leI (decLow xs)))) - (fp 1))))) (fp (leI (fpB (((d) * ((fp (leI (decLow xs))) * (fp (leI (decLow xs))))) + (fp 1))))))) _ o5.rd (by rw [av]; decide))) rfl ?_))))))
  rintro w24 k24
  replace hb1 := hb1.pK k24
  replace ow2 := ow2.pK k24
  replace hb3 := hb3.pK k24
  replace o5 := o5.pK k24
  replace hB := hB.trans k24
  refine df [(66, _)] (jS rfl rfl rfl hgc2) ⟨eA rfl, trivial⟩ (fun hw5 => gR rfl rfl) rfl (ow_pand (dh rfl rfl rfl hgc1) (eA rfl) rfl hgc2 rfl (aU (iB rfl rfl hgc1) rfl (aT (aW [(2, _), (4, _), (6, _), (0, _), (69, _)] ⟨rfl, rfl, rfl, rfl, rfl, trivial⟩ (dH rfl (fun hc2 => ?_) (fun hc2 => ?_))))))
  ·
   have hd1 := hc2
   try (simp only [Bool.and_eq_true, Bool.or_eq_true, decide_eq_true_eq, Bool.and_eq_false_iff, Bool.or_eq_false_iff, decide_eq_false_iff_not, Bool.not_eq_true', Bool.not_eq_false', Bool.not_eq_true, Bool.not_eq_false, ne_eq, Decidable.not_not] at hd1)
   refine aS (aR (aU (cd (idx := []) (xs := []) (vs := []) (css := []) (out := [_, _, _, _, _, _, _, _, _, _, _, _, _, _, _, _, _, _, _, _]) jw bA rfl rfl trivial rfl rfl) rfl (a6 (ak bA rfl rfl rfl (by simp only [List.forall_mem_cons]; refine ⟨rfl, rfl, rfl, rfl, rfl, rfl, rfl, rfl, rfl, rfl, rfl, rfl, rfl, rfl, rfl, rfl, rfl, rfl, rfl, rfl, fun v hv => by cases hv⟩) hb1 rfl) ?_)))
   rintro _ w25 ⟨hb9, k25, z10⟩
   replace ow2 := ow2.keep k25 (fun x hx hm => sb_b1_o1 x hx (List.mem_singleton.1 hm))
   replace hb3 := hb3.keep k25 (nm (Ne.symm ne_b1_b2))
   replace o5 := o5.keep k25 (fun x hx hm => sb_b1_o5 x hx (List.mem_singleton.1 hm))
   replace hB := hB.new k25 (nw ge_b1)
   clear z10
   replace hb9 : Bk w25 b1 _ [.int .u64 0, .int .u64 0, .int .u64 0, .int .u64 0, .int .u64 0, .int .u64 0, .int .u64 0, .int .u64 0, .int .u64 0, .int .u64 0, .int .u64 0, .int .u64 0, .int .u64 0, .int .u64 0, .int .u64 0, .int .u64 0, .int .u64 0, .int .u64 0, .int .u64 0, .int .u64 0] := hb9
   refine oga rfl rfl (aT (cR hfin Tryd.results15 rfl (ae cq bA hb9 rfl) rfl ?_))
   have he := dec_e2 (z := 0) hx hc1 (ou h1 rfl rfl hc2)
   exact ⟨fun _ => 0, by rw [he]; rfl, fun h => by rw [he] at h; exact absurd h (by decide), fun _ => rfl, hB⟩
  ·
   have hd2 := hc2
   try (simp only [Bool.and_eq_true, Bool.or_eq_true, decide_eq_true_eq, Bool.and_eq_false_iff, Bool.or_eq_false_iff, decide_eq_false_iff_not, Bool.not_eq_true', Bool.not_eq_false', Bool.not_eq_true, Bool.not_eq_false, ne_eq, Decidable.not_not] at hd2)
   refine a8 (aS (aR (ogm rfl rfl (a9 (aV (vs := [_]) rfl (iE _ (fpB (rootF (fp (leI (fpB (((fp (leI (decLow xs))) * (fp (leI (decLow xs)))) - (fp 1))))) (fp (leI (fpB (((d) * ((fp (leI (decLow xs))) * (fp (leI (decLow xs))))) + (fp 1))))))) _ o5.rd (av _))) rfl ?_))))
   rintro _ w26 ⟨hh8, rfl, E8, k26⟩
   replace hb1 := hb1.pK k26
   replace ow2 := ow2.pK k26
   obtain ⟨hB, hb3⟩ := bT k26 hB hb3
   refine ogm rfl rfl (aU (ar (vs := [_, _]) rfl rfl) rfl (aU (ar (vs := [_, _]) rfl rfl) rfl (a9 (ab aj) rfl ?_)))
   rintro _ w27 ⟨b5, rfl, eb5, hb10, k27, z11⟩
   have ge_b5 : w.heap.size ≤ b5 := by have := hB.size; omega
   have ne_b1_b5 : b1 ≠ b5 := by have := hb1.lt; omega
   have sb_b5_ow2 := fun x hx => (show x ≠ b5 from by have := (ow2.blk x hx).2; omega)
   have ne_b2_b5 : b2 ≠ b5 := by have := hb3.lt; omega
   replace hb1 := hb1.pK k27
   replace ow2 := ow2.pK k27
   obtain ⟨hB, hb3⟩ := bT k27 hB hb3
   clear eb5 z11
   refine a6 (ak aj rfl rfl rfl ad hb10 rfl) ?_
   rintro _ w28 ⟨hb11, k28, z12⟩
   replace hb1 := hb1.keep k28 (nm ne_b1_b5)
   replace ow2 := ow2.keep k28 (fun x hx hm => sb_b5_ow2 x hx (List.mem_singleton.1 hm))
   replace hb3 := hb3.keep k28 (nm ne_b2_b5)
   replace hB := hB.new k28 (nw ge_b5)
   clear z12
   replace hb11 := cv (g := hh8) hb11
   refine oga rfl rfl (aT (aS (aS (aR (ogm rfl rfl (aT (bo rfl (fun hc3 => ?_) (fun hc3 => ?_))))))))
   ·
    refine aR (aU (cd (idx := []) (xs := []) (vs := []) (css := []) (out := [_, _, _, _, _]) jx aj rfl rfl trivial rfl rfl) rfl (aU (aX (cs' := [_, _, _, _, _]) bG aj rfl hb11 rfl rfl) rfl (a9 (aV (vs := [_, _]) rfl (dL _ _ _ _ eU E8 _)) rfl ?_)))
    rintro _ w29 ⟨hh9, rfl, E9, k29⟩
    replace hb1 := hb1.pK k29
    replace ow2 := ow2.pK k29
    obtain ⟨hB, hb3, hb11⟩ := cX k29 hB hb3 hb11
    refine a6 (ak aj rfl rfl rfl ad hb11 rfl) ?_
    rintro _ w30 ⟨hb12, k30, z13⟩
    replace hb1 := hb1.keep k30 (nm ne_b1_b5)
    replace ow2 := ow2.keep k30 (fun x hx hm => sb_b5_ow2 x hx (List.mem_singleton.1 hm))
    replace hb3 := hb3.keep k30 (nm ne_b2_b5)
    replace hB := hB.new k30 (nw ge_b5)
    clear z13
    replace hb12 := cv (g := hh9) hb12
    refine aT (aW [(2, _), (6, _), (12, _)] ⟨rfl, rfl, rfl, trivial⟩ (aS (aR (aU (aX (cs' := [_, _, _, _, _]) bG aj rfl hb12 rfl rfl) rfl (aU (aX (cs' := [_, _, _, _, _]) bG aj rfl hb3 rfl rfl) rfl (a9 (aV (vs := [_, _]) rfl (fM _ _ _ _ E9 E1 _)) rfl ?_))))))
    rintro _ w31 ⟨hh10, rfl, E10, k31⟩
    replace hb1 := hb1.pK k31
    replace ow2 := ow2.pK k31
    obtain ⟨hB, hb3⟩ := bT k31 hB hb3
    refine a6 (ak bA rfl rfl rfl ad hb1 rfl) ?_
    rintro _ w32 ⟨hb13, k32, z14⟩
    replace ow2 := ow2.keep k32 (fun x hx hm => sb_b1_o1 x hx (List.mem_singleton.1 hm))
    replace hb3 := hb3.keep k32 (nm (Ne.symm ne_b1_b2))
    replace hB := hB.new k32 (nw ge_b1)
    clear z14
    replace hb13 := et (g := hh10) hb13
    refine oga rfl rfl (aT (cR hfin Tryd.results15 rfl (ae cq bA hb13 rfl) rfl ?_))
    have he := oo (z := 0) hx hc1 (ou h1 rfl rfl hc2)
    exact ⟨hh10, by rw [he]; rfl, fun _ => (by rw [dec_xT h1 rfl rfl hc3]; exact E10), fun h => absurd he h, hB⟩
   ·
    refine a8 (aS (aR (aU (aX (cs' := [_, _, _, _, _]) bG aj rfl hb11 rfl rfl) rfl (aU (aX (cs' := [_, _, _, _, _]) bG aj rfl hb3 rfl rfl) rfl (a9 (aV (vs := [_, _]) rfl (fM _ _ _ _ E8 E1 _)) rfl ?_)))))
    rintro _ w33 ⟨hh11, rfl, E11, k33⟩
    replace hb1 := hb1.pK k33
    replace ow2 := ow2.pK k33
    replace hB := hB.trans k33
    refine a6 (ak bA rfl rfl rfl ad hb1 rfl) ?_
    rintro _ w34 ⟨hb14, k34, z15⟩
    replace ow2 := ow2.keep k34 (fun x hx hm => sb_b1_o1 x hx (List.mem_singleton.1 hm))
    replace hB := hB.new k34 (nw ge_b1)
    clear z15
    replace hb14 := et (g := hh11) hb14
    refine oga rfl rfl (aT (aW [(2, _), (3, _)] ⟨rfl, rfl, trivial⟩ (cR hfin Tryd.results15 rfl (ae cq bA hb14 rfl) rfl ?_)))
    have he := oo (z := 0) hx hc1 (ou h1 rfl rfl hc2)
    exact ⟨hh11, by rw [he]; rfl, fun _ => (by rw [dec_xF h1 rfl rfl hc3]; exact E11), fun h => absurd he h, hB⟩
end Go.Proofs.YtllmbkmghmmhfaaDoor.W
namespace Go.Proofs.YtllmbkmghmmhfaaDoor.W
open Go Go.Eng Go.Byt
open Go.Fld Go.Ed
def baseB : List UInt8 := [88, 102, 102, 102, 102, 102, 102, 102, 102, 102, 102, 102, 102, 102, 102, 102, 102, 102, 102, 102, 102, 102, 102, 102, 102, 102, 102, 102, 102, 102, 102, 102]
def basePt : Pt := (⟨15112221349535400772501151409588531511454012693041857206046113283949847762202, by decide⟩, ⟨46316835694926478169428394003475163141307993866256225615783033603165251855960, by decide⟩)
theorem bt : OnP basePt := by unfold OnP On; decide +kernel
theorem kW : decLow baseB = baseB := by decide +kernel
theorem lM : decY baseB = basePt.2 := by unfold decY; rw [kW]; decide +kernel
theorem nA : (bv (repN 102 32)).set 0 (.int .u8 88) = bv baseB := by
 rw [j2 (by decide)]; congr 1
def bU : Fp := (⟨37053468555941182535542715202780130513046395093004980492626426882532201484767, by decide⟩ : Fp)
def bV : Fp := (⟨35320460721920060721965471946471712506633951349663716574434581141966314745466, by decide⟩ : Fp)
def bI : Fp := (⟨36615873626505047815401509688526422966742341385236691817538452001808239043262, by decide⟩ : Fp)
def bQ : Fp := (⟨26187595835145689230469591415084376402084551887632582719101735842039498021991, by decide⟩ : Fp)
def bR : Fp := (⟨42783823269122696939284341094755422415180979639778424813682678720006717057747, by decide⟩ : Fp)
def bS : Fp := (⟨42783823269122696939284341094755422415180979639778424813682678720006717057747, by decide⟩ : Fp)
theorem pF : decU basePt.2 = bU := by decide +kernel
theorem pE : decV basePt.2 = bV := by decide +kernel
theorem pG : bU * inv bV = bQ := by rw [fI (show bV * bI = 1 by decide +kernel)]; decide +kernel
theorem base_r0 : dq bQ = bR := Fin.ext (by unfold dq; rw [jX _ _ (by decide)]; decide +kernel)
theorem mB : cm bQ = bS := by
 unfold cm
 rw [base_r0]
 rw [if_pos (by decide +kernel)]; decide +kernel
theorem mC : rootOk bU bV = true := by unfold rootOk; rw [pG, mB]; decide +kernel
theorem base_F : rootF bU bV = basePt.1 := by unfold rootF; rw [mC, pG, mB]; decide +kernel
theorem pH : decE baseB = 0 := by
 have hl : ¬ baseB.length ≠ 32 := by decide
 have ho : decOdd baseB = false := by decide +kernel
 unfold decE
 rw [if_neg hl, lM, kW, if_neg (by decide +kernel), pF, pE, mC, ho]; rfl
theorem base_X : decX baseB = basePt.1 := by
 have ho : decOdd baseB = false := by decide +kernel
 unfold decX
 rw [ho, lM, pF, pE, base_F]; rfl
theorem j3 (v : Value) (w : World) (hv : RdB w v baseB) : Rets Tryd.prog 15 [v] w (fun v w' => ∃ p, v = .tuple #[.agg (iv .u64 20 p).toArray, .int .i64 0] ∧ PtR p basePt ∧ Keep [] w w') :=
  (iU v baseB w hv (by decide)).mono fun r w' ⟨p, e, h, _, k⟩ => ⟨p, by rw [e, pH], by have := h pH; rw [base_X, lM] at this; exact gp this, k⟩
theorem nE (w : World) : Rets Tryd.prog 24 [] w (fun v w' => ∃ p, v = .agg (iv .u64 20 p).toArray ∧ PtR p basePt ∧ Keep [] w w') := by
 have hB : Keep [] w w := Keep.refl _ _
 refine a7 Tryd.func24 rfl (by decide) Tryd.ntmps24 rfl (fun fin _ hfin => aS (aR (a9 (ab bA) rfl ?_)))
 rintro _ w1 ⟨b1, rfl, eb1, hb1, k1, z1⟩
 have ge_b1 : w.heap.size ≤ b1 := by have := hB.size; omega
 replace hB := hB.trans k1
 clear eb1 z1
 refine aT (aS (aR (a9 (gS (m := 1) (xs := [.const (.int .u8 (102))]) (vs := [_]) aB cZ (by decide) rfl rfl rfl (by first | (simp; done) | (intro v hv; rw [List.mem_singleton] at hv; subst hv; rfl)) (by decide)) rfl ?_)))
 rintro v1 w2 ⟨o1, nn1, lb1, k2, z2⟩
 obtain ⟨hB, hb1⟩ := bT k2 hB hb1
 replace o1 : Own w2 _ _ 1 v1 1 (bv [102]) := o1
 refine a9 (aV (vs := [_, _]) rfl (km _ 102 _ (o1).rd)) rfl ?_
 rintro v2 w3 ⟨o2, k3⟩
 have gl_o2 := hB.size
 have sb_b1_o2 := fun x hx => (show x ≠ b1 from by have h1 := (o2.blk x hx).1; have h2 := hb1.lt; omega)
 obtain ⟨hB, hb1⟩ := bT k3 hB hb1
 refine oga rfl rfl (aT (aS (aR (ogm rfl rfl (aU (dV aB cZ rfl o2.rd rfl (by omega)) rfl (a6 (iO (u := .int .u8 88) cZ rfl rfl rfl o2 (by decide)) ?_))))))
 rintro _ w99 ⟨ow2, k99, z99⟩
 replace hB := hB.new k99 (fun x hx => .inl (Nat.le_trans gl_o2 (o2.blk x hx).1))
 replace ow2 : OwnB w99 w.heap.size v2 baseB := by have e := ow2.lo gl_o2; rw [show (0 : Int).toNat * 1 = 0 from rfl, nA] at e; exact e
 replace hb1 := hb1.keep k99 (fun hm => sb_b1_o2 _ hm rfl)
 refine aT (aS (aR (ogm rfl rfl (a9 (aV (vs := [_]) rfl (j3 _ _ ow2.rd)) rfl ?_))))
 rintro _ w4 ⟨hh1, rfl, E1, k4⟩
 replace hb1 := hb1.pK k4
 replace ow2 := ow2.pK k4
 replace hB := hB.trans k4
 refine ogm rfl rfl (aU (ar (vs := [_, _]) rfl rfl) rfl (aU (ar (vs := [_, _]) rfl rfl) rfl (a9 (ab bA) rfl ?_)))
 rintro _ w5 ⟨b2, rfl, eb2, hb2, k5, z3⟩
 have ge_b2 : w.heap.size ≤ b2 := by have := hB.size; omega
 have ne_b1_b2 : b1 ≠ b2 := by have := hb1.lt; omega
 have sb_b2_ow2 := fun x hx => (show x ≠ b2 from by have := (ow2.blk x hx).2; omega)
 replace hb1 := hb1.pK k5
 replace ow2 := ow2.pK k5
 replace hB := hB.trans k5
 clear eb2 z3
 refine a6 (ak bA rfl rfl rfl ad hb2 rfl) ?_
 rintro _ w6 ⟨hb3, k6, z4⟩
 replace hb1 := hb1.keep k6 (nm ne_b1_b2)
 replace ow2 := ow2.keep k6 (fun x hx hm => sb_b2_ow2 x hx (List.mem_singleton.1 hm))
 replace hB := hB.new k6 (nw ge_b2)
 clear z4
 replace hb3 := et (g := hh1) hb3
 refine oga rfl rfl (aT (aW [(0, _), (2, _)] ⟨rfl, rfl, trivial⟩ (aS (aR (aU (aX (cs' := [_, _, _, _, _, _, _, _, _, _, _, _, _, _, _, _, _, _, _, _]) cq bA rfl hb3 rfl rfl) rfl (a6 (ak bA rfl rfl rfl (by simp only [List.forall_mem_cons]; refine ⟨rfl, rfl, rfl, rfl, rfl, rfl, rfl, rfl, rfl, rfl, rfl, rfl, rfl, rfl, rfl, rfl, rfl, rfl, rfl, rfl, fun v hv => by cases hv⟩) hb1 rfl) ?_))))))
 rintro _ w7 ⟨hb4, k7, z5⟩
 replace ow2 := ow2.keep k7 (fun x hx hm => sb_b1_o2 x hx (List.mem_singleton.1 hm))
 replace hB := hB.new k7 (nw ge_b1)
 clear z5
 replace hb4 := et (g := hh1) hb4
 refine aT (bP hfin Tryd.results24 rfl (ae cq bA hb4 rfl)  ?_)
 exact ⟨hh1, rfl, E1, hB⟩
attribute [local irreducible] encB
theorem fullR {p : Nat → Int} {a : Pt} (hp : PtR p a) (w : World) : Rets Tryd.prog 25 [.agg (iv .u64 20 p).toArray] w (fun v w' => ∃ r, v = .agg (iv .u64 20 r).toArray ∧ PtR r a ∧ Keep [] w w') := by
  obtain ⟨Z, hz, h⟩ := hp
  exact (fb p _ _ _ _ h hz w).mono fun v w' ⟨r, e, h', k⟩ => ⟨r, e, ⟨Z, hz, h'⟩, k⟩
theorem plusR {p q f : Nat → Int} {a b : Pt} (hp : PtR p a) (hq : PtR q b) (oa : OnP a) (ob : OnP b) (hf : El f d) (w : World) : Rets Tryd.prog 47 [.agg (iv .u64 20 p).toArray, .agg (iv .u64 20 q).toArray, .agg (iv .u64 5 f).toArray] w (fun v w' => ∃ r, v = .agg (iv .u64 20 r).toArray ∧ PtR r (padd a b) ∧ Keep [] w w') := by
  obtain ⟨Z1, h1, hp⟩ := hp
  obtain ⟨Z2, h2, hq⟩ := hq
  exact (ib p q f _ _ _ _ _ _ _ _ _ hp hq hf w).mono fun v w' ⟨r, e, h', k⟩ => ⟨r, e, jt oa ob h1 h2 h', k⟩
theorem doubleR {p : Nat → Int} {a : Pt} (hp : PtR p a) (oa : OnP a) (w : World) : Rets Tryd.prog 48 [.agg (iv .u64 20 p).toArray] w (fun v w' => ∃ r, v = .agg (iv .u64 20 r).toArray ∧ PtR r (padd a a) ∧ Keep [] w w') := by
  obtain ⟨Z, hz, hp⟩ := hp
  exact (jz p _ _ _ _ hp w).mono fun v w' ⟨r, e, h', k⟩ => ⟨r, e, ko oa hz h', k⟩
theorem PplusR {p q : Nat → Int} {a b : Pt} (hp : PtR p a) (hq : PtR q b) (oa : OnP a) (ob : OnP b) (w : World) : Rets Tryd.prog 19 [.agg (iv .u64 20 p).toArray, .agg (iv .u64 20 q).toArray] w (fun v w' => ∃ r, v = .agg (iv .u64 20 r).toArray ∧ PtR r (padd a b) ∧ Keep [] w w') := by
  obtain ⟨Z1, h1, hp⟩ := hp
  obtain ⟨Z2, h2, hq⟩ := hq
  exact (nD p q _ _ _ _ _ _ _ _ hp h1 hq h2 w).mono fun v w' ⟨r, e, h', k⟩ => ⟨r, e, jt oa ob h1 h2 h', k⟩
theorem PzeroR (w : World) : Rets Tryd.prog 46 [] w (fun v w' => ∃ r, v = .agg (iv .u64 20 r).toArray ∧ PtR r zero ∧ Keep [] w w') :=
  (nB w).mono fun v w' ⟨r, e, h', k⟩ => ⟨r, e, ng h', k⟩
theorem dn {x Z : Fp} (hz : Z ≠ 0) : x * Z * inv Z = x := by
 have := cE hz
 generalize inv Z = i at *
 grind -lia -linarith
theorem PencodeR {p : Nat → Int} {a : Pt} (hp : PtR p a) (w : World) : Rets Tryd.prog 13 [.agg (iv .u64 20 p).toArray] w (fun v w' => OwnB w' w.heap.size v (encB a.1 a.2) ∧ Keep [] w w') := by
  obtain ⟨Z, hz, hp⟩ := hp
  have h := ek p _ _ _ _ hp hz w
  rw [dn hz, dn hz] at h
  exact h
theorem PsameR {p q : Nat → Int} {a b : Pt} (hp : PtR p a) (hq : PtR q b) (w : World) : Rets Tryd.prog 18 [.agg (iv .u64 20 p).toArray, .agg (iv .u64 20 q).toArray] w (fun v w' => v = .bool (decide (encB a.1 a.2 = encB b.1 b.2)) ∧ Keep [] w w') := by
  obtain ⟨Z1, h1, hp⟩ := hp
  obtain ⟨Z2, h2, hq⟩ := hq
  have h := nC p q _ _ _ _ _ _ _ _ hp h1 hq h2 w
  rw [dn h1, dn h1, dn h2, dn h2] at h
  exact h
end Go.Proofs.YtllmbkmghmmhfaaDoor.W
