/- Sums of points of a curve -x^2 + y^2 = 1 + d x^2 y^2 mod 2^255 - 19: they do not care about order and grouping. Nothing here names a program. -/
import Derived.Test.YtkngeapegpehpaaNumT
namespace Go.Ed
open Go.Nt
abbrev P : Nat := 57896044618658097711785492504343953926634992332820282019728792003956564819949
instance : NeZero P := ⟨by decide⟩
abbrev Fp := Fin P
theorem prime : Pr P := prP
theorem val_mul (a b : Fp) : (a * b).val = a.val * b.val % P := rfl
theorem val_add (a b : Fp) : (a + b).val = (a.val + b.val) % P := rfl
theorem mul_zero_or {a b : Fp} (h : a * b = 0) : a = 0 ∨ b = 0 := by
  have h1 : a.val * b.val % P = 0 := by rw [← val_mul, h]; rfl
  rcases prime.dvd_mul (Nat.dvd_of_mod_eq_zero h1) with h2 | h2
  · exact .inl (Fin.ext (Nat.eq_zero_of_dvd_of_lt h2 a.isLt))
  · exact .inr (Fin.ext (Nat.eq_zero_of_dvd_of_lt h2 b.isLt))
theorem mul_ne {a b : Fp} (ha : a ≠ 0) (hb : b ≠ 0) : a * b ≠ 0 := fun h => (mul_zero_or h).elim ha hb
theorem mul_cancel {a b c : Fp} (hc : c ≠ 0) (h : a * c = b * c) : a = b := by
  have h1 : (a - b) * c = 0 := by grind -lia -linarith
  rcases mul_zero_or h1 with h2 | h2
  · grind -lia -linarith
  · exact absurd h2 hc
def fpow (a : Fp) : Nat → Fp
  | 0 => 1
  | n + 1 => fpow a n * a
theorem fpow_val (a : Fp) : ∀ n, (fpow a n).val = a.val ^ n % P
  | 0 => rfl
  | n + 1 => by rw [fpow, val_mul, fpow_val a n, Nat.pow_succ, Nat.mod_mul_mod]
theorem fpow_add (a : Fp) (m : Nat) : ∀ n, fpow a (m + n) = fpow a m * fpow a n
  | 0 => (Fin.mul_one _).symm
  | n + 1 => by rw [← Nat.add_assoc, fpow, fpow_add a m n, fpow, Fin.mul_assoc]
theorem fpow_mul (a : Fp) (m : Nat) : ∀ n, fpow a (m * n) = fpow (fpow a m) n
  | 0 => rfl
  | n + 1 => by rw [Nat.mul_succ, fpow_add, fpow_mul a m n, fpow]
theorem fpow_one (n : Nat) : fpow 1 n = 1 := by
  induction n with
  | zero => rfl
  | succ n ih => rw [fpow, ih]; rfl
theorem one_fpow (a : Fp) : fpow a 1 = a := Fin.one_mul a
theorem mul_fpow (a b : Fp) : ∀ n, fpow (a * b) n = fpow a n * fpow b n
  | 0 => rfl
  | n + 1 => by rw [fpow, mul_fpow a b n, fpow, fpow]; grind -lia -linarith
theorem fermat {a : Fp} (h : a ≠ 0) : fpow a (P - 1) = 1 := by
  apply Fin.ext
  rw [fpow_val, prime.fermat1 (fun hd => h (Fin.ext (Nat.eq_zero_of_dvd_of_lt hd a.isLt)))]
  rfl
def inv (a : Fp) : Fp := fpow a (P - 2)
theorem mul_inv {a : Fp} (h : a ≠ 0) : a * inv a = 1 := by
  have h1 := fermat h
  have e : P - 1 = (P - 2) + 1 := rfl
  rw [e] at h1
  rw [Fin.mul_comm]; exact h1
theorem inv_unique {a b : Fp} (h : a * b = 1) : inv a = b := by
  have ha : a ≠ 0 := fun e => by subst e; rw [Fin.zero_mul] at h; exact absurd h (by decide)
  have := mul_inv ha
  grind -lia -linarith
theorem inv_ne {a : Fp} (h : a ≠ 0) : inv a ≠ 0 := fun e => by
  have := mul_inv h
  rw [e, Fin.mul_zero] at this; exact absurd this (by decide)
theorem fpow_pw (a : Fp) (n : Nat) (h : n < 2 ^ 256) : (fpow a n).val = pw P 256 a.val n := by rw [fpow_val, pw_eq _ _ _ _ h]
/-- -121665 by 121666 -/
def d : Fp := ⟨37095705934669439343138083508754565189542113879843219016388785533085940283555, by decide⟩
theorem d_def : d * 121666 = -121665 := by decide +kernel
def im : Fp := ⟨19681161376707505956807079304988542015446066515923890162744021073123829784752, by decide⟩
theorem im_sq : im * im = -1 := by decide +kernel
theorem d_ne : d ≠ 0 := by decide +kernel
theorem d_half : fpow d ((P - 1) / 2) = -1 := by
  apply Fin.ext
  rw [fpow_pw _ _ (by decide)]
  decide +kernel
theorem no_root (s : Fp) : s * s ≠ d := by
  intro h
  have hs : s ≠ 0 := fun e => by subst e; exact d_ne (by rw [← h, Fin.mul_zero])
  have h1 : fpow (fpow s 2) ((P - 1) / 2) = 1 := by
    rw [← fpow_mul]; exact fermat hs
  have h2 : fpow s 2 = d := by rw [← h]; show 1 * s * s = s * s; rw [Fin.one_mul]
  rw [h2, d_half] at h1
  exact absurd h1 (by decide +kernel)
theorem two_ne : (2 : Fp) ≠ 0 := by decide +kernel
/-! the curve -/
def On (x y : Fp) : Prop := y * y - x * x = 1 + d * x * x * y * y
theorem far {x1 y1 x2 y2 : Fp} (h1 : On x1 y1) (h2 : On x2 y2) : (d * x1 * x2 * y1 * y2) * (d * x1 * x2 * y1 * y2) ≠ 1 := by
  intro he
  unfold On at h1 h2
  generalize hee : d * x1 * x2 * y1 * y2 = e at he
  have hi := im_sq
  have e0 : x1 * y1 ≠ 0 := fun h => by
    have : e = 0 := by grind -lia -linarith
    rw [this, Fin.zero_mul] at he; exact absurd he (by decide)
  have e2 : y2 ≠ 0 := fun h => by
    have : e = 0 := by rw [← hee, h, Fin.mul_zero]
    rw [this, Fin.zero_mul] at he; exact absurd he (by decide)
  have k1 : (im * x1 + e * y1) * (im * x1 + e * y1) = d * (x1 * y1) * (x1 * y1) * ((y2 + im * x2) * (y2 + im * x2)) := by grind -lia -linarith
  have k2 : (im * x1 - e * y1) * (im * x1 - e * y1) = d * (x1 * y1) * (x1 * y1) * ((y2 - im * x2) * (y2 - im * x2)) := by grind -lia -linarith
  have fin : ∀ u v : Fp, v ≠ 0 → u * u ≠ d * (x1 * y1) * (x1 * y1) * (v * v) := by
    intro u v hv hc
    have h3 := mul_inv (mul_ne e0 hv)
    refine no_root (u * inv (x1 * y1 * v)) ?_
    grind -lia -linarith
  by_cases hz : y2 + im * x2 = 0
  · refine fin _ (y2 - im * x2) (fun h => ?_) k2
    have : (2 : Fp) * y2 = 0 := by grind -lia -linarith
    rcases mul_zero_or this with h | h
    · exact two_ne h
    · exact e2 h
  · exact fin _ _ hz k1
theorem far1 {x1 y1 x2 y2 : Fp} (h1 : On x1 y1) (h2 : On x2 y2) : 1 + d * x1 * x2 * y1 * y2 ≠ 0 := fun h => far h1 h2 (by grind -lia -linarith)
theorem far2 {x1 y1 x2 y2 : Fp} (h1 : On x1 y1) (h2 : On x2 y2) : 1 - d * x1 * x2 * y1 * y2 ≠ 0 := fun h => far h1 h2 (by grind -lia -linarith)
abbrev Pt := Fp × Fp
def OnP (p : Pt) : Prop := On p.1 p.2
def padd (p q : Pt) : Pt := ((p.1 * q.2 + p.2 * q.1) * inv (1 + d * p.1 * q.1 * p.2 * q.2), (p.2 * q.2 + p.1 * q.1) * inv (1 - d * p.1 * q.1 * p.2 * q.2))
def zero : Pt := (0, 1)
def pneg (p : Pt) : Pt := (-p.1, p.2)
theorem on_zero : OnP zero := by unfold OnP On zero; decide +kernel
theorem on_neg {p : Pt} (h : OnP p) : OnP (pneg p) := by unfold OnP On pneg at *; grind -lia -linarith
theorem padd_comm (p q : Pt) : padd p q = padd q p := by
  unfold padd
  have e1 : p.1 * q.2 + p.2 * q.1 = q.1 * p.2 + q.2 * p.1 := by grind -lia -linarith
  have e2 : p.2 * q.2 + p.1 * q.1 = q.2 * p.2 + q.1 * p.1 := by grind -lia -linarith
  have e3 : d * p.1 * q.1 * p.2 * q.2 = d * q.1 * p.1 * q.2 * p.2 := by grind -lia -linarith
  rw [e1, e2, e3]
theorem on_add {p q : Pt} (hp : OnP p) (hq : OnP q) : OnP (padd p q) := by
  obtain ⟨x1, y1⟩ := p
  obtain ⟨x2, y2⟩ := q
  have u1 := mul_inv (far1 hp hq)
  have u2 := mul_inv (far2 hp hq)
  unfold OnP On padd at *
  simp only at *
  generalize inv (1 + d * x1 * x2 * y1 * y2) = u at *
  generalize inv (1 - d * x1 * x2 * y1 * y2) = v at *
  have key : (y1 * y2 + x1 * x2) * (y1 * y2 + x1 * x2) * ((1 + d * x1 * x2 * y1 * y2) * (1 + d * x1 * x2 * y1 * y2)) - (x1 * y2 + y1 * x2) * (x1 * y2 + y1 * x2) * ((1 - d * x1 * x2 * y1 * y2) * (1 - d * x1 * x2 * y1 * y2)) = (1 + d * x1 * x2 * y1 * y2) * (1 + d * x1 * x2 * y1 * y2) * ((1 - d * x1 * x2 * y1 * y2) * (1 - d * x1 * x2 * y1 * y2)) + d * (x1 * y2 + y1 * x2) * (x1 * y2 + y1 * x2) * (y1 * y2 + x1 * x2) * (y1 * y2 + x1 * x2) := by grind -lia -linarith
  generalize 1 + d * x1 * x2 * y1 * y2 = a at *
  generalize 1 - d * x1 * x2 * y1 * y2 = b at *
  generalize y1 * y2 + x1 * x2 = m at *
  generalize x1 * y2 + y1 * x2 = n at *
  have k2 : (m * m * (a * a) - n * n * (b * b)) * (u * u * (v * v)) = (a * a * (b * b) + d * n * n * m * m) * (u * u * (v * v)) := by rw [key]
  grind -lia -linarith
theorem zero_add (p : Pt) : padd zero p = p := by
  have e1 : inv (1 : Fp) = 1 := inv_unique (Fin.one_mul 1)
  obtain ⟨x, y⟩ := p
  have e2 : 1 + d * 0 * x * 1 * y = 1 := by grind -lia -linarith
  have e3 : 1 - d * 0 * x * 1 * y = 1 := by grind -lia -linarith
  unfold padd zero
  simp only
  rw [e2, e3, e1]
  refine Prod.ext ?_ ?_
  · show (0 * y + 1 * x) * 1 = x
    grind -lia -linarith
  · show (1 * y + 0 * x) * 1 = y
    grind -lia -linarith
theorem add_zero (p : Pt) : padd p zero = p := by rw [padd_comm, zero_add]
theorem add_neg {p : Pt} (h : OnP p) : padd p (pneg p) = zero := by
  have u2 := mul_inv (far2 h (on_neg h))
  obtain ⟨x, y⟩ := p
  unfold OnP On padd pneg zero at *
  simp only at *
  refine Prod.ext ?_ ?_
  · show (x * y + y * -x) * _ = 0
    grind -lia -linarith
  · show (y * y + x * -x) * _ = 1
    have e : y * y + x * -x = 1 - d * x * -x * y * y := by grind -lia -linarith
    rw [e]; exact u2
set_option maxRecDepth 100000 in
theorem assoc_x {x1 y1 x2 y2 x3 y3 d : Fp} (h1 : y1 * y1 - x1 * x1 = 1 + d * x1 * x1 * y1 * y1) (h2 : y2 * y2 - x2 * x2 = 1 + d * x2 * x2 * y2 * y2) (h3 : y3 * y3 - x3 * x3 = 1 + d * x3 * x3 * y3 * y3) :
    ((x1 * y2 + y1 * x2) * (1 - d * x1 * x2 * y1 * y2) * y3 + (y1 * y2 + x1 * x2) * (1 + d * x1 * x2 * y1 * y2) * x3) * ((1 + d * x2 * x3 * y2 * y3) * (1 - d * x2 * x3 * y2 * y3) + d * x1 * y1 * (x2 * y3 + y2 * x3) * (y2 * y3 + x2 * x3)) =
    (x1 * (y2 * y3 + x2 * x3) * (1 + d * x2 * x3 * y2 * y3) + y1 * (x2 * y3 + y2 * x3) * (1 - d * x2 * x3 * y2 * y3)) * ((1 + d * x1 * x2 * y1 * y2) * (1 - d * x1 * x2 * y1 * y2) + d * (x1 * y2 + y1 * x2) * (y1 * y2 + x1 * x2) * x3 * y3) := by
  have g1 : y1 * y1 - x1 * x1 - (1 + d * x1 * x1 * y1 * y1) = 0 := by grind -lia -linarith
  have g2 : y2 * y2 - x2 * x2 - (1 + d * x2 * x2 * y2 * y2) = 0 := by grind -lia -linarith
  have g3 : y3 * y3 - x3 * x3 - (1 + d * x3 * x3 * y3 * y3) = 0 := by grind -lia -linarith
  have key : ((x1 * y2 + y1 * x2) * (1 - d * x1 * x2 * y1 * y2) * y3 + (y1 * y2 + x1 * x2) * (1 + d * x1 * x2 * y1 * y2) * x3) * ((1 + d * x2 * x3 * y2 * y3) * (1 - d * x2 * x3 * y2 * y3) + d * x1 * y1 * (x2 * y3 + y2 * x3) * (y2 * y3 + x2 * x3)) - ((x1 * (y2 * y3 + x2 * x3) * (1 + d * x2 * x3 * y2 * y3) + y1 * (x2 * y3 + y2 * x3) * (1 - d * x2 * x3 * y2 * y3)) * ((1 + d * x1 * x2 * y1 * y2) * (1 - d * x1 * x2 * y1 * y2) + d * (x1 * y2 + y1 * x2) * (y1 * y2 + x1 * x2) * x3 * y3)) =
    (-x1*x2*x2*x2*x2*y2*y2*y2*x3*x3*y3*d*d - x1*x2*x2*x2*x2*y2*x3*x3*y3*d - x1*x2*x2*x2*y2*y2*y2*y2*x3*y3*y3*d*d - x1*x2*x2*x2*y2*y2*x3*x3*x3*d - x1*x2*x2*x2*y2*y2*x3*d + x1*x2*x2*y2*y2*y2*y3*y3*y3*d - x1*x2*x2*y2*y2*y2*y3*d + x1*x2*y2*y2*y2*y2*x3*y3*y3*d + y1*x2*x2*x2*x2*y2*y2*y2*x3*y3*y3*d*d + y1*x2*x2*x2*x2*y2*x3*y3*y3*d + y1*x2*x2*x2*y2*y2*y2*y2*x3*x3*y3*d*d + y1*x2*x2*x2*y2*y2*y3*y3*y3*d - y1*x2*x2*x2*y2*y2*y3*d - y1*x2*x2*y2*y2*y2*x3*x3*x3*d - y1*x2*x2*y2*y2*y2*x3*d - y1*x2*y2*y2*y2*y2*x3*x3*y3*d) * (y1 * y1 - x1 * x1 - (1 + d * x1 * x1 * y1 * y1)) + (x1*x1*x1*x2*x2*y2*x3*x3*y3*d + x1*x1*x1*x2*y2*y2*x3*y3*y3*d + x1*x1*x1*x2*x3*x3*x3*y3*y3*d + x1*x1*x1*x2*x3*x3*x3 - x1*x1*x1*x2*x3*y3*y3 + x1*x1*x1*x2*x3 + x1*x1*x1*y2*x3*x3*y3*y3*y3*d + x1*x1*x1*y2*x3*x3*y3 - x1*x1*x1*y2*y3*y3*y3 + x1*x1*x1*y2*y3 + x1*x1*y1*x2*x2*y2*x3*x3*x3*y3*y3*d*d - x1*x1*y1*x2*x2*y2*x3*y3*y3*d - x1*x1*y1*x2*y2*y2*x3*x3*y3*y3*y3*d*d - x1*x1*y1*x2*y2*y2*x3*x3*y3*d + x1*x1*y1*x2*x3*x3*y3*y3*y3*d + x1*x1*y1*x2*x3*x3*y3 - x1*x1*y1*x2*y3*y3*y3 + x1*x1*y1*x2*y3 + x1*x1*y1*y2*x3*x3*x3*y3*y3*d + x1*x1*y1*y2*x3*x3*x3 - x1*x1*y1*y2*x3*y3*y3 + x1*x1*y1*y2*x3 - x1*y1*y1*x2*x2*y2*x3*x3*y3*y3*y3*d*d - x1*y1*y1*x2*x2*y2*x3*x3*y3*d + x1*y1*y1*x2*y2*y2*x3*x3*x3*y3*y3*d*d - x1*y1*y1*x2*y2*y2*x3*y3*y3*d - x1*y1*y1*x2*x3*x3*x3*y3*y3*d - x1*y1*y1*x2*x3*x3*x3 + x1*y1*y1*x2*x3*y3*y3 - x1*y1*y1*x2*x3 - x1*y1*y1*y2*x3*x3*y3*y3*y3*d - x1*y1*y1*y2*x3*x3*y3 + x1*y1*y1*y2*y3*y3*y3 - x1*y1*y1*y2*y3 + x1*x2*x2*y2*x3*x3*y3*d + x1*x2*y2*y2*x3*y3*y3*d + x1*x2*x3*x3*x3*y3*y3*d + x1*x2*x3*x3*x3 - x1*x2*x3*y3*y3 + x1*x2*x3 + x1*y2*x3*x3*y3*y3*y3*d + x1*y2*x3*x3*y3 - x1*y2*y3*y3*y3 + x1*y2*y3 + y1*y1*y1*x2*x2*y2*x3*y3*y3*d + y1*y1*y1*x2*y2*y2*x3*x3*y3*d - y1*y1*y1*x2*x3*x3*y3*y3*y3*d - y1*y1*y1*x2*x3*x3*y3 + y1*y1*y1*x2*y3*y3*y3 - y1*y1*y1*x2*y3 - y1*y1*y1*y2*x3*x3*x3*y3*y3*d - y1*y1*y1*y2*x3*x3*x3 + y1*y1*y1*y2*x3*y3*y3 - y1*y1*y1*y2*x3 - y1*x2*x2*y2*x3*y3*y3*d - y1*x2*y2*y2*x3*x3*y3*d + y1*x2*x3*x3*y3*y3*y3*d + y1*x2*x3*x3*y3 - y1*x2*y3*y3*y3 + y1*x2*y3 + y1*y2*x3*x3*x3*y3*y3*d + y1*y2*x3*x3*x3 - y1*y2*x3*y3*y3 + y1*y2*x3) * (y2 * y2 - x2 * x2 - (1 + d * x2 * x2 * y2 * y2)) + (-x1*x1*x1*x2*x2*x2*x3 - x1*x1*x1*x2*x2*y2*y3 + x1*x1*x1*x2*y2*y2*x3 - x1*x1*x1*x2*x3 + x1*x1*x1*y2*y2*y2*y3 - x1*x1*x1*y2*y3 - x1*x1*y1*x2*x2*x2*y3 - x1*x1*y1*x2*x2*y2*x3*d - x1*x1*y1*x2*x2*y2*x3 + x1*x1*y1*x2*y2*y2*y3*d + x1*x1*y1*x2*y2*y2*y3 - x1*x1*y1*x2*y3 + x1*x1*y1*y2*y2*y2*x3 - x1*x1*y1*y2*x3 + x1*y1*y1*x2*x2*x2*x3 + x1*y1*y1*x2*x2*y2*y3*d + x1*y1*y1*x2*x2*y2*y3 - x1*y1*y1*x2*y2*y2*x3*d - x1*y1*y1*x2*y2*y2*x3 + x1*y1*y1*x2*x3 - x1*y1*y1*y2*y2*y2*y3 + x1*y1*y1*y2*y3 - x1*x2*x2*x2*x3 - x1*x2*x2*y2*y3 + x1*x2*y2*y2*x3 - x1*x2*x3 + x1*y2*y2*y2*y3 - x1*y2*y3 + y1*y1*y1*x2*x2*x2*y3 + y1*y1*y1*x2*x2*y2*x3 - y1*y1*y1*x2*y2*y2*y3 + y1*y1*y1*x2*y3 - y1*y1*y1*y2*y2*y2*x3 + y1*y1*y1*y2*x3 - y1*x2*x2*x2*y3 - y1*x2*x2*y2*x3 + y1*x2*y2*y2*y3 - y1*x2*y3 + y1*y2*y2*y2*x3 - y1*y2*x3) * (y3 * y3 - x3 * x3 - (1 + d * x3 * x3 * y3 * y3)) := by clear h1 h2 h3 g1 g2 g3; grind -lia -linarith
  rw [g1, g2, g3] at key
  grind -lia -linarith
set_option maxRecDepth 100000 in
theorem assoc_y {x1 y1 x2 y2 x3 y3 d : Fp} (h1 : y1 * y1 - x1 * x1 = 1 + d * x1 * x1 * y1 * y1) (h2 : y2 * y2 - x2 * x2 = 1 + d * x2 * x2 * y2 * y2) (h3 : y3 * y3 - x3 * x3 = 1 + d * x3 * x3 * y3 * y3) :
    ((y1 * y2 + x1 * x2) * (1 + d * x1 * x2 * y1 * y2) * y3 + (x1 * y2 + y1 * x2) * (1 - d * x1 * x2 * y1 * y2) * x3) * ((1 + d * x2 * x3 * y2 * y3) * (1 - d * x2 * x3 * y2 * y3) - d * x1 * y1 * (x2 * y3 + y2 * x3) * (y2 * y3 + x2 * x3)) =
    (y1 * (y2 * y3 + x2 * x3) * (1 + d * x2 * x3 * y2 * y3) + x1 * (x2 * y3 + y2 * x3) * (1 - d * x2 * x3 * y2 * y3)) * ((1 + d * x1 * x2 * y1 * y2) * (1 - d * x1 * x2 * y1 * y2) - d * (x1 * y2 + y1 * x2) * (y1 * y2 + x1 * x2) * x3 * y3) := by
  have g1 : y1 * y1 - x1 * x1 - (1 + d * x1 * x1 * y1 * y1) = 0 := by grind -lia -linarith
  have g2 : y2 * y2 - x2 * x2 - (1 + d * x2 * x2 * y2 * y2) = 0 := by grind -lia -linarith
  have g3 : y3 * y3 - x3 * x3 - (1 + d * x3 * x3 * y3 * y3) = 0 := by grind -lia -linarith
  have key : ((y1 * y2 + x1 * x2) * (1 + d * x1 * x2 * y1 * y2) * y3 + (x1 * y2 + y1 * x2) * (1 - d * x1 * x2 * y1 * y2) * x3) * ((1 + d * x2 * x3 * y2 * y3) * (1 - d * x2 * x3 * y2 * y3) - d * x1 * y1 * (x2 * y3 + y2 * x3) * (y2 * y3 + x2 * x3)) - ((y1 * (y2 * y3 + x2 * x3) * (1 + d * x2 * x3 * y2 * y3) + x1 * (x2 * y3 + y2 * x3) * (1 - d * x2 * x3 * y2 * y3)) * ((1 + d * x1 * x2 * y1 * y2) * (1 - d * x1 * x2 * y1 * y2) - d * (x1 * y2 + y1 * x2) * (y1 * y2 + x1 * x2) * x3 * y3)) =
    (x1*x2*x2*x2*x2*y2*y2*y2*x3*y3*y3*d*d + x1*x2*x2*x2*x2*y2*x3*y3*y3*d + x1*x2*x2*x2*y2*y2*y2*y2*x3*x3*y3*d*d + x1*x2*x2*x2*y2*y2*y3*y3*y3*d - x1*x2*x2*x2*y2*y2*y3*d - x1*x2*x2*y2*y2*y2*x3*x3*x3*d - x1*x2*x2*y2*y2*y2*x3*d - x1*x2*y2*y2*y2*y2*x3*x3*y3*d - y1*x2*x2*x2*x2*y2*y2*y2*x3*x3*y3*d*d - y1*x2*x2*x2*x2*y2*x3*x3*y3*d - y1*x2*x2*x2*y2*y2*y2*y2*x3*y3*y3*d*d - y1*x2*x2*x2*y2*y2*x3*x3*x3*d - y1*x2*x2*x2*y2*y2*x3*d + y1*x2*x2*y2*y2*y2*y3*y3*y3*d - y1*x2*x2*y2*y2*y2*y3*d + y1*x2*y2*y2*y2*y2*x3*y3*y3*d) * (y1 * y1 - x1 * x1 - (1 + d * x1 * x1 * y1 * y1)) + (-x1*x1*x1*x2*x2*y2*x3*y3*y3*d - x1*x1*x1*x2*y2*y2*x3*x3*y3*d + x1*x1*x1*x2*x3*x3*y3*y3*y3*d + x1*x1*x1*x2*x3*x3*y3 - x1*x1*x1*x2*y3*y3*y3 + x1*x1*x1*x2*y3 + x1*x1*x1*y2*x3*x3*x3*y3*y3*d + x1*x1*x1*y2*x3*x3*x3 - x1*x1*x1*y2*x3*y3*y3 + x1*x1*x1*y2*x3 + x1*x1*y1*x2*x2*y2*x3*x3*y3*y3*y3*d*d + x1*x1*y1*x2*x2*y2*x3*x3*y3*d - x1*x1*y1*x2*y2*y2*x3*x3*x3*y3*y3*d*d + x1*x1*y1*x2*y2*y2*x3*y3*y3*d + x1*x1*y1*x2*x3*x3*x3*y3*y3*d + x1*x1*y1*x2*x3*x3*x3 - x1*x1*y1*x2*x3*y3*y3 + x1*x1*y1*x2*x3 + x1*x1*y1*y2*x3*x3*y3*y3*y3*d + x1*x1*y1*y2*x3*x3*y3 - x1*x1*y1*y2*y3*y3*y3 + x1*x1*y1*y2*y3 - x1*y1*y1*x2*x2*y2*x3*x3*x3*y3*y3*d*d + x1*y1*y1*x2*x2*y2*x3*y3*y3*d + x1*y1*y1*x2*y2*y2*x3*x3*y3*y3*y3*d*d + x1*y1*y1*x2*y2*y2*x3*x3*y3*d - x1*y1*y1*x2*x3*x3*y3*y3*y3*d - x1*y1*y1*x2*x3*x3*y3 + x1*y1*y1*x2*y3*y3*y3 - x1*y1*y1*x2*y3 - x1*y1*y1*y2*x3*x3*x3*y3*y3*d - x1*y1*y1*y2*x3*x3*x3 + x1*y1*y1*y2*x3*y3*y3 - x1*y1*y1*y2*x3 - x1*x2*x2*y2*x3*y3*y3*d - x1*x2*y2*y2*x3*x3*y3*d + x1*x2*x3*x3*y3*y3*y3*d + x1*x2*x3*x3*y3 - x1*x2*y3*y3*y3 + x1*x2*y3 + x1*y2*x3*x3*x3*y3*y3*d + x1*y2*x3*x3*x3 - x1*y2*x3*y3*y3 + x1*y2*x3 - y1*y1*y1*x2*x2*y2*x3*x3*y3*d - y1*y1*y1*x2*y2*y2*x3*y3*y3*d - y1*y1*y1*x2*x3*x3*x3*y3*y3*d - y1*y1*y1*x2*x3*x3*x3 + y1*y1*y1*x2*x3*y3*y3 - y1*y1*y1*x2*x3 - y1*y1*y1*y2*x3*x3*y3*y3*y3*d - y1*y1*y1*y2*x3*x3*y3 + y1*y1*y1*y2*y3*y3*y3 - y1*y1*y1*y2*y3 + y1*x2*x2*y2*x3*x3*y3*d + y1*x2*y2*y2*x3*y3*y3*d + y1*x2*x3*x3*x3*y3*y3*d + y1*x2*x3*x3*x3 - y1*x2*x3*y3*y3 + y1*x2*x3 + y1*y2*x3*x3*y3*y3*y3*d + y1*y2*x3*x3*y3 - y1*y2*y3*y3*y3 + y1*y2*y3) * (y2 * y2 - x2 * x2 - (1 + d * x2 * x2 * y2 * y2)) + (-x1*x1*x1*x2*x2*x2*y3 - x1*x1*x1*x2*x2*y2*x3 + x1*x1*x1*x2*y2*y2*y3 - x1*x1*x1*x2*y3 + x1*x1*x1*y2*y2*y2*x3 - x1*x1*x1*y2*x3 - x1*x1*y1*x2*x2*x2*x3 - x1*x1*y1*x2*x2*y2*y3*d - x1*x1*y1*x2*x2*y2*y3 + x1*x1*y1*x2*y2*y2*x3*d + x1*x1*y1*x2*y2*y2*x3 - x1*x1*y1*x2*x3 + x1*x1*y1*y2*y2*y2*y3 - x1*x1*y1*y2*y3 + x1*y1*y1*x2*x2*x2*y3 + x1*y1*y1*x2*x2*y2*x3*d + x1*y1*y1*x2*x2*y2*x3 - x1*y1*y1*x2*y2*y2*y3*d - x1*y1*y1*x2*y2*y2*y3 + x1*y1*y1*x2*y3 - x1*y1*y1*y2*y2*y2*x3 + x1*y1*y1*y2*x3 - x1*x2*x2*x2*y3 - x1*x2*x2*y2*x3 + x1*x2*y2*y2*y3 - x1*x2*y3 + x1*y2*y2*y2*x3 - x1*y2*x3 + y1*y1*y1*x2*x2*x2*x3 + y1*y1*y1*x2*x2*y2*y3 - y1*y1*y1*x2*y2*y2*x3 + y1*y1*y1*x2*x3 - y1*y1*y1*y2*y2*y2*y3 + y1*y1*y1*y2*y3 - y1*x2*x2*x2*x3 - y1*x2*x2*y2*y3 + y1*x2*y2*y2*x3 - y1*x2*x3 + y1*y2*y2*y2*y3 - y1*y2*y3) * (y3 * y3 - x3 * x3 - (1 + d * x3 * x3 * y3 * y3)) := by clear h1 h2 h3 g1 g2 g3; grind -lia -linarith
  rw [g1, g2, g3] at key
  grind -lia -linarith
theorem frac {a b p q : Fp} (hp : p ≠ 0) (hq : q ≠ 0) (h : a * q = b * p) : a * inv p = b * inv q := by
  have h1 := mul_inv hp; have h2 := mul_inv hq
  have e1 : a * inv p = a * q * (inv p * inv q) := by grind -lia -linarith
  have e2 : b * inv q = b * p * (inv p * inv q) := by grind -lia -linarith
  rw [e1, e2, h]
/-- One step of a sum of three: fractions of fractions. -/
theorem nest {n m p q a b : Fp} (hp : p ≠ 0) (hq : q ≠ 0) (s : Fp) :
    (n * inv p * b + m * inv q * a) = (n * q * b + m * p * a) * inv (p * q) ∧ s * (n * inv p) * a * (m * inv q) * b = s * n * a * m * b * inv (p * q) := by
  have h1 := mul_inv hp; have h2 := mul_inv hq; have h3 := mul_inv (mul_ne hp hq)
  generalize inv p = u at *
  generalize inv q = v at *
  generalize inv (p * q) = w at *
  have hw : w = u * v := by
    have : w = w * ((p * u) * (q * v)) := by rw [h1, h2]; grind -lia -linarith
    grind -lia -linarith
  subst hw
  constructor <;> grind -lia -linarith
theorem nestC {n m p q a b : Fp} (hp : p ≠ 0) (hq : q ≠ 0) : a * (m * inv q) + b * (n * inv p) = (a * m * p + b * n * q) * inv (p * q) := by
  have := (nest (n := n) (m := m) (a := a) (b := b) hp hq 0).1
  generalize inv p = u at *
  generalize inv q = v at *
  generalize inv (p * q) = w at *
  clear hp hq
  grind -lia -linarith
theorem nestP {n m p q a b : Fp} (hp : p ≠ 0) (hq : q ≠ 0) (s : Fp) : s * a * (n * inv p) * b * (m * inv q) = s * a * b * n * m * inv (p * q) := by
  have := (nest (n := n) (m := m) (a := a) (b := b) hp hq s).2
  generalize inv p = u at *
  generalize inv q = v at *
  generalize inv (p * q) = w at *
  clear hp hq
  grind -lia -linarith
theorem nestS {n m p q a b : Fp} (hp : p ≠ 0) (hq : q ≠ 0) : m * inv q * a + n * inv p * b = (m * p * a + n * q * b) * inv (p * q) := by
  have := (nest (n := n) (m := m) (a := a) (b := b) hp hq 0).1
  generalize inv p = u at *
  generalize inv q = v at *
  generalize inv (p * q) = w at *
  clear hp hq
  grind -lia -linarith
theorem half {n p q e : Fp} (hp : p ≠ 0) (hq : q ≠ 0) (hn : 1 + e * inv (p * q) ≠ 0) : p * q + e ≠ 0 ∧ (n * inv (p * q)) * inv (1 + e * inv (p * q)) = n * inv (p * q + e) := by
  have h3 := mul_inv (mul_ne hp hq)
  have h4 := mul_inv hn
  have e1 : p * q + e = p * q * (1 + e * inv (p * q)) := by grind -lia -linarith
  have h5 : p * q + e ≠ 0 := by rw [e1]; exact mul_ne (mul_ne hp hq) hn
  refine ⟨h5, ?_⟩
  have h6 : inv (p * q + e) = inv (p * q) * inv (1 + e * inv (p * q)) := inv_unique (by
    generalize inv (1 + e * inv (p * q)) = b at *
    generalize inv (p * q) = w at *
    grind -lia -linarith)
  rw [h6]; grind -lia -linarith
theorem sub_as (a b : Fp) : a - b = a + -b := by grind -lia -linarith
theorem sw5 (a b c e g : Fp) : a * b * c * e * g = a * b * e * c * g := by grind -lia -linarith
theorem neg1 (a b : Fp) : 1 - a * b = 1 + -a * b := by grind -lia -linarith
theorem negs (a b : Fp) : a + -b = a - b := by grind -lia -linarith
theorem padd_assoc {p q r : Pt} (hp : OnP p) (hq : OnP q) (hr : OnP r) : padd (padd p q) r = padd p (padd q r) := by
  have k1 := far1 hp hq; have k2 := far2 hp hq; have k3 := far1 hq hr; have k4 := far2 hq hr
  have k5 := far1 (on_add hp hq) hr; have k6 := far2 (on_add hp hq) hr; have k7 := far1 hp (on_add hq hr); have k8 := far2 hp (on_add hq hr)
  have hx := assoc_x (d := d) hp hq hr
  have hy := assoc_y (d := d) hp hq hr
  obtain ⟨x1, y1⟩ := p
  obtain ⟨x2, y2⟩ := q
  obtain ⟨x3, y3⟩ := r
  unfold padd at *
  simp only at *
  generalize hn1 : x1 * y2 + y1 * x2 = n1 at *
  generalize hn2 : y1 * y2 + x1 * x2 = n2 at *
  generalize hm1 : x2 * y3 + y2 * x3 = m1 at *
  generalize hm2 : y2 * y3 + x2 * x3 = m2 at *
  generalize hp1 : 1 + d * x1 * x2 * y1 * y2 = p1 at *
  generalize hp2 : 1 - d * x1 * x2 * y1 * y2 = p2 at *
  generalize hq1 : 1 + d * x2 * x3 * y2 * y3 = q1 at *
  generalize hq2 : 1 - d * x2 * x3 * y2 * y3 = q2 at *
  have a1 := (nest (n := n1) (m := n2) (a := x3) (b := y3) k1 k2 d).1
  have a2 := (nest (n := n1) (m := n2) (a := x3) (b := y3) k1 k2 d).2
  have b1 : x1 * (m2 * inv q2) + y1 * (m1 * inv q1) = (x1 * m2 * q1 + y1 * m1 * q2) * inv (q1 * q2) := nestC k3 k4
  have b2 : d * x1 * (m1 * inv q1) * y1 * (m2 * inv q2) = d * x1 * y1 * m1 * m2 * inv (q1 * q2) := nestP k3 k4 d
  have a3 : n2 * inv p2 * y3 + n1 * inv p1 * x3 = (n2 * p1 * y3 + n1 * p2 * x3) * inv (p1 * p2) := nestS k1 k2
  have b3 : y1 * (m2 * inv q2) + x1 * (m1 * inv q1) = (y1 * m2 * q1 + x1 * m1 * q2) * inv (q1 * q2) := nestC k3 k4
  rw [a2] at k5 k6
  rw [b2] at k7 k8
  have c6 := neg1 (d * n1 * x3 * n2 * y3) (inv (p1 * p2))
  have c8 := neg1 (d * x1 * y1 * m1 * m2) (inv (q1 * q2))
  rw [c6] at k6
  rw [c8] at k8
  rw [a1, a2, a3, b1, b2, b3, c6, c8]
  have f5 := half (n := n1 * p2 * y3 + n2 * p1 * x3) k1 k2 k5
  have f6 := half (n := n2 * p1 * y3 + n1 * p2 * x3) k1 k2 k6
  have f7 := half (n := x1 * m2 * q1 + y1 * m1 * q2) k3 k4 k7
  have f8 := half (n := y1 * m2 * q1 + x1 * m1 * q2) k3 k4 k8
  rw [f5.2, f6.2, f7.2, f8.2]
  refine Prod.ext ?_ ?_
  · refine frac f5.1 f7.1 ?_
    rw [sw5 d n1 x3 n2 y3]; exact hx
  · refine frac f6.1 f8.1 ?_
    rw [sw5 d n1 x3 n2 y3, negs, negs]; exact hy
def pmul : Nat → Pt → Pt
  | 0, _ => zero
  | n + 1, p => padd (pmul n p) p
theorem on_mul {p : Pt} (h : OnP p) : ∀ n, OnP (pmul n p)
  | 0 => on_zero
  | n + 1 => on_add (on_mul h n) h
theorem pmul_add {p : Pt} (h : OnP p) (m : Nat) : ∀ n, pmul (m + n) p = padd (pmul m p) (pmul n p)
  | 0 => (add_zero _).symm
  | n + 1 => by rw [← Nat.add_assoc, pmul, pmul_add h m n, pmul, padd_assoc (on_mul h m) (on_mul h n) h]
theorem pmul_mul {p : Pt} (h : OnP p) (m : Nat) : ∀ n, pmul (m * n) p = pmul n (pmul m p)
  | 0 => rfl
  | n + 1 => by rw [Nat.mul_succ, pmul_add h, pmul_mul h m n, pmul]
theorem pmul_one (p : Pt) : pmul 1 p = p := zero_add p
theorem pmul_zero (n : Nat) : pmul n zero = zero := by
  induction n with
  | zero => rfl
  | succ n ih => rw [pmul, ih, zero_add]
end Go.Ed
