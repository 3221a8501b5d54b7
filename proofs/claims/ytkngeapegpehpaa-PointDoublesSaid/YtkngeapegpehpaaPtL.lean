/- Points in four numbers: what they stand for, and the laws of sums. -/
import Derived.Test.YtkngeapegpehpaaPta
import Derived.Test.YtkngeapegpehpaaEdw
import Derived.Test.YtkngeapegpehpaaEngT
namespace Go.Proofs.Ytkngeapegpehpaa.W
open Go Go.Eng Go.Byt Go.Fld Go.Ed
/-- Four numbers show the point a. -/
def PtR (p : Nat → Int) (a : Pt) : Prop := ∃ Z, Z ≠ 0 ∧ PtEl p (a.1 * Z) (a.2 * Z) Z (a.1 * a.2 * Z)
theorem one_fp : fp 1 = 1 := by decide
theorem one_ne : (1 : Fp) ≠ 0 := by decide
theorem ptr_mk {p : Nat → Int} {X Y Z T : Fp} {a : Pt} (h : PtEl p X Y Z T) (hz : Z ≠ 0) (hx : X = a.1 * Z) (hy : Y = a.2 * Z) (ht : T = a.1 * a.2 * Z) : PtR p a := ⟨Z, hz, by subst hx hy ht; exact h⟩
theorem ptr_affine {p : Nat → Int} {x y : Fp} (h : PtEl p x y (fp 1) (x * y)) : PtR p (x, y) := by
  rw [one_fp] at h
  refine ptr_mk h one_ne ?_ ?_ ?_ <;> (show _ = _ * (1 : Fp); grind -lia -linarith)
theorem ptr_zero {p : Nat → Int} (h : PtEl p 0 (fp 1) (fp 1) (0 * fp 1)) : PtR p zero := by
  rw [one_fp] at h
  exact ptr_mk h one_ne (by decide) (by decide) (by decide)
theorem ptr_cz {X Y Z T x y u v E F G H m N M : Fp} (hu : u * inv u = 1) (hv : v * inv v = 1) (hE : E = m * N) (hG : G = m * u) (hF : F = m * v) (hH : H = m * M) (hx : x = N * inv u) (hy : y = M * inv v) (hX : X = E * F) (hY : Y = G * H) (hZ : Z = F * G) (hT : T = E * H) :
    X = x * Z ∧ Y = y * Z ∧ T = x * y * Z := by
  generalize inv u = iu at *
  generalize inv v = iv at *
  subst hE hG hF hH hx hy hX hY hZ hT
  refine ⟨?_, ?_, ?_⟩ <;> grind -lia -linarith
theorem far1' {a b : Pt} (ha : OnP a) (hb : OnP b) : 1 + d * a.1 * b.1 * a.2 * b.2 ≠ 0 := far1 ha hb
theorem far2' {a b : Pt} (ha : OnP a) (hb : OnP b) : 1 - d * a.1 * b.1 * a.2 * b.2 ≠ 0 := far2 ha hb
theorem ptr_plus {r : Nat → Int} {a b : Pt} {Z1 Z2 : Fp} (ha : OnP a) (hb : OnP b) (h1 : Z1 ≠ 0) (h2 : Z2 ≠ 0)
    (h : PtEl r (((a.1 * Z1 + a.2 * Z1) * (b.1 * Z2 + b.2 * Z2) - a.1 * Z1 * (b.1 * Z2) - a.2 * Z1 * (b.2 * Z2)) * (Z1 * Z2 - a.1 * a.2 * Z1 * (b.1 * b.2 * Z2) * d)) ((Z1 * Z2 + a.1 * a.2 * Z1 * (b.1 * b.2 * Z2) * d) * (a.2 * Z1 * (b.2 * Z2) + a.1 * Z1 * (b.1 * Z2)))
      ((Z1 * Z2 - a.1 * a.2 * Z1 * (b.1 * b.2 * Z2) * d) * (Z1 * Z2 + a.1 * a.2 * Z1 * (b.1 * b.2 * Z2) * d)) (((a.1 * Z1 + a.2 * Z1) * (b.1 * Z2 + b.2 * Z2) - a.1 * Z1 * (b.1 * Z2) - a.2 * Z1 * (b.2 * Z2)) * (a.2 * Z1 * (b.2 * Z2) + a.1 * Z1 * (b.1 * Z2)))) : PtR r (padd a b) := by
  have f1 := far1' ha hb
  have f2 := far2' ha hb
  obtain ⟨x1, y1⟩ := a
  obtain ⟨x2, y2⟩ := b
  simp only at h f1 f2
  have hF : Z1 * Z2 - x1 * y1 * Z1 * (x2 * y2 * Z2) * d = (Z1 * Z2) * (1 - d * x1 * x2 * y1 * y2) := by clear f1 f2; generalize d = e; grind -lia -linarith
  have hG : Z1 * Z2 + x1 * y1 * Z1 * (x2 * y2 * Z2) * d = (Z1 * Z2) * (1 + d * x1 * x2 * y1 * y2) := by clear f1 f2; generalize d = e; grind -lia -linarith
  have hE : (x1 * Z1 + y1 * Z1) * (x2 * Z2 + y2 * Z2) - x1 * Z1 * (x2 * Z2) - y1 * Z1 * (y2 * Z2) = (Z1 * Z2) * (x1 * y2 + y1 * x2) := by clear f1 f2; grind -lia -linarith
  have hH : y1 * Z1 * (y2 * Z2) + x1 * Z1 * (x2 * Z2) = (Z1 * Z2) * (y1 * y2 + x1 * x2) := by clear f1 f2; grind -lia -linarith
  obtain ⟨c1, c2, c3⟩ := ptr_cz (mul_inv f1) (mul_inv f2) hE hG hF hH rfl rfl rfl rfl rfl rfl
  refine ptr_mk h ?_ c1 c2 c3
  rw [hF, hG]
  exact mul_ne (mul_ne (mul_ne h1 h2) f2) (mul_ne (mul_ne h1 h2) f1)
theorem ptr_double {r : Nat → Int} {a : Pt} {Z : Fp} (ha : OnP a) (hz : Z ≠ 0)
    (h : PtEl r ((a.1 * Z * (a.1 * Z) + a.2 * Z * (a.2 * Z) - (a.1 * Z + a.2 * Z) * (a.1 * Z + a.2 * Z)) * (Z * Z + Z * Z + (a.1 * Z * (a.1 * Z) - a.2 * Z * (a.2 * Z)))) ((a.1 * Z * (a.1 * Z) - a.2 * Z * (a.2 * Z)) * (a.1 * Z * (a.1 * Z) + a.2 * Z * (a.2 * Z)))
      ((Z * Z + Z * Z + (a.1 * Z * (a.1 * Z) - a.2 * Z * (a.2 * Z))) * (a.1 * Z * (a.1 * Z) - a.2 * Z * (a.2 * Z))) ((a.1 * Z * (a.1 * Z) + a.2 * Z * (a.2 * Z) - (a.1 * Z + a.2 * Z) * (a.1 * Z + a.2 * Z)) * (a.1 * Z * (a.1 * Z) + a.2 * Z * (a.2 * Z)))) : PtR r (padd a a) := by
  have f1 := far1' ha ha
  have f2 := far2' ha ha
  obtain ⟨x, y⟩ := a
  simp only at h f1 f2
  have hon : y * y - x * x = 1 + d * x * x * y * y := ha
  have hG : x * Z * (x * Z) - y * Z * (y * Z) = (-(Z * Z)) * (1 + d * x * x * y * y) := by clear f1 f2 ha; rw [← hon]; grind -lia -linarith
  have hF : Z * Z + Z * Z + (x * Z * (x * Z) - y * Z * (y * Z)) = (Z * Z) * (1 - d * x * x * y * y) := by
    rw [hG]; clear f1 f2 ha hon hG; generalize d = e; grind -lia -linarith
  have hE : x * Z * (x * Z) + y * Z * (y * Z) - (x * Z + y * Z) * (x * Z + y * Z) = (-(Z * Z)) * (x * y + y * x) := by clear f1 f2 ha hon hG hF; grind -lia -linarith
  have hH : x * Z * (x * Z) + y * Z * (y * Z) = (Z * Z) * (y * y + x * x) := by clear f1 f2 ha hon hG hF hE; grind -lia -linarith
  have key : ∀ {X Y Z' T x3 y3 u v E F G H m N M : Fp}, u * inv u = 1 → v * inv v = 1 → E = (-m) * N → G = (-m) * u → F = m * v → H = m * M → x3 = N * inv u → y3 = M * inv v → X = E * F → Y = G * H → Z' = F * G → T = E * H → X = x3 * Z' ∧ Y = y3 * Z' ∧ T = x3 * y3 * Z' := by
    intro X Y Z' T x3 y3 u v E F G H m N M hu hv hE hG hF hH hx hy hX hY hZ hT
    generalize inv u = iu at *
    generalize inv v = iv at *
    clear f1 f2 ha hon
    subst hE hG hF hH hx hy hX hY hZ hT
    refine ⟨?_, ?_, ?_⟩ <;> grind -lia -linarith
  obtain ⟨c1, c2, c3⟩ := key (mul_inv f1) (mul_inv f2) hE hG hF hH rfl rfl rfl rfl rfl rfl
  refine ptr_mk h ?_ c1 c2 c3
  rw [hF, hG]
  have hn : -(Z * Z) ≠ 0 := fun e => mul_ne hz hz (by have : Z * Z = -(-(Z * Z)) := by grind -lia -linarith
                                                      rw [this, e]; decide)
  exact mul_ne (mul_ne (mul_ne hz hz) f2) (mul_ne hn f1)
theorem ptr_neg {r : Nat → Int} {a : Pt} {Z : Fp} (hz : Z ≠ 0) (h : PtEl r (0 - a.1 * Z) (a.2 * Z) Z (0 - a.1 * a.2 * Z)) : PtR r (pneg a) := by
  obtain ⟨x, y⟩ := a
  refine ptr_mk h hz ?_ rfl ?_ <;> (unfold pneg; simp only; grind -lia -linarith)
theorem sub_congr {p q : Nat → Int} {X Y Z T : Fp} (h : PtEl p X Y Z T) (e : ∀ c, c < 20 → p c = q c) : PtEl q X Y Z T := by
  obtain ⟨h1, h2, h3, h4⟩ := h
  refine ⟨?_, ?_, ?_, ?_⟩
  · unfold El val5 at *
    rw [← e 0 (by decide), ← e 1 (by decide), ← e 2 (by decide), ← e 3 (by decide), ← e 4 (by decide)]; exact h1
  · rw [← e 5 (by decide), ← e 6 (by decide), ← e 7 (by decide), ← e 8 (by decide), ← e 9 (by decide)]; exact h2
  · rw [← e 10 (by decide), ← e 11 (by decide), ← e 12 (by decide), ← e 13 (by decide), ← e 14 (by decide)]; exact h3
  · rw [← e 15 (by decide), ← e 16 (by decide), ← e 17 (by decide), ← e 18 (by decide), ← e 19 (by decide)]; exact h4
theorem ptr_congr {p q : Nat → Int} {a : Pt} (h : PtR p a) (e : ∀ c, c < 20 → p c = q c) : PtR q a := by
  obtain ⟨Z, hz, h⟩ := h
  exact ⟨Z, hz, sub_congr h e⟩
/-- The window: so many of a, place by place. -/
theorem win_start {W r : Nat → Int} {a : Pt} (h : PtR r zero) : ∀ j, j < 1 → PtR (atN (updR W (0 + 0) 20 r) (0 + j * 20)) (pmul j a) := by
  intro j hj
  obtain rfl : j = 0 := by omega
  exact ptr_congr h (fun c hc => (atN_updR_same (by omega)).symm)
theorem win_step {W r : Nat → Int} {a : Pt} {i : Int} (h0 : 1 ≤ i) (h : ∀ j, j < i.toNat → PtR (atN W (0 + j * 20)) (pmul j a)) (hr : PtR r (padd (pmul (i - 1).toNat a) a)) :
    ∀ j, j < (i + 1).toNat → PtR (atN (updR W (0 + i.toNat * 20) 20 r) (0 + j * 20)) (pmul j a) := by
  intro j hj
  by_cases hji : j < i.toNat
  · exact ptr_congr (h j hji) (fun c hc => (atN_updR_other (by omega)).symm)
  · have e : j = i.toNat := by omega
    subst e
    have e2 : pmul i.toNat a = padd (pmul (i - 1).toNat a) a := by
      rw [show i.toNat = (i - 1).toNat + 1 by omega]; rfl
    rw [e2]
    exact ptr_congr hr (fun c hc => (atN_updR_same (by omega)).symm)
/-! digits of 4 bits -/
def nib (xs : List UInt8) (i : Int) : Int := leI xs / 16 ^ i.toNat % 16
theorem nib_in (xs : List UInt8) (i : Int) : In (nib xs i) 0 15 := by unfold nib In; omega
theorem leI_get : ∀ (xs : List UInt8) (j : Nat), j < xs.length → leI xs / 256 ^ j % 256 = gb xs (j : Int)
  | [], j, h => by simp at h
  | x :: r, 0, _ => by
    have hx := x.toNat_lt
    simp [leI, gb]; omega
  | x :: r, j + 1, h => by
    have ih := leI_get r j (by simpa using h)
    have hx := x.toNat_lt
    have e : leI (x :: r) / 256 ^ (j + 1) = leI r / 256 ^ j := by
      rw [Int.pow_succ, Int.mul_comm, ← Int.ediv_ediv_of_nonneg (by omega)]
      congr 1
      simp only [leI]; omega
    rw [e, ih]
    unfold gb; congr 2
theorem shr_0 (x : Int) : x / 2 ^ (0 : Nat) = x := by simp
theorem nib_eq {xs : List UInt8} {i : Int} (hx : xs.length = 32) (h0 : 0 ≤ i) (h1 : i ≤ 63) : bits .and .u8 (gb xs (i / 2) / 2 ^ (4 * (i % 2) : Int).toNat) 15 = nib xs i := by
  have hg := leI_get xs (i / 2).toNat (by omega)
  rw [show ((i / 2).toNat : Int) = i / 2 by omega] at hg
  have gr := gb_range xs (i / 2)
  have hn : 0 ≤ leI xs := (leI_bound xs).1
  by_cases ho : i % 2 = 0
  · rw [ho, show (4 * (0 : Int)).toNat = 0 from rfl, shr_0, and_mod (k := .u8) (a := 0) (b := 255) 4 (c := 15) (m := 16) gr rfl rfl rfl rfl rfl rfl]
    unfold nib
    rw [show i.toNat = (i / 2).toNat + (i / 2).toNat by omega, Int.pow_add, ← Int.mul_pow, show (16 : Int) * 16 = 256 from rfl]
    omega
  · have ho : i % 2 = 1 := by omega
    rw [ho, show (4 * (1 : Int)).toNat = 4 from rfl, and_mod (k := .u8) (a := 0) (b := 15) 4 (c := 15) (m := 16) (by unfold In; omega) rfl rfl rfl rfl rfl rfl]
    unfold nib
    have e : (16 : Int) ^ i.toNat = 256 ^ (i / 2).toNat * 16 := by
      rw [show i.toNat = (i / 2).toNat + (i / 2).toNat + 1 by omega, Int.pow_succ, Int.pow_add, ← Int.mul_pow, show (16 : Int) * 16 = 256 from rfl]
    rw [e, ← Int.ediv_ediv_of_nonneg (Int.pow_nonneg (by decide)), show (2 : Int) ^ 4 = 16 from rfl]
    omega
/-- The number of what stands above digit i. -/
def topN (xs : List UInt8) (i : Int) : Nat := (leI xs / 16 ^ i.toNat).toNat
theorem topN_all {xs : List UInt8} (hx : xs.length = 32) : topN xs 64 = 0 := by
  have h := leI_bound xs
  rw [hx] at h
  unfold topN
  rw [show (16 : Int) ^ (64 : Int).toNat = 256 ^ 32 by decide +kernel, Int.ediv_eq_zero_of_lt h.1 h.2]; rfl
theorem topN_zero (xs : List UInt8) : topN xs 0 = (leI xs).toNat := by unfold topN; simp
theorem topN_step {xs : List UInt8} {i : Int} (h0 : 0 ≤ i) : topN xs i = topN xs (i + 1) * 16 + (nib xs i).toNat := by
  have hn : 0 ≤ leI xs := (leI_bound xs).1
  have hp : 0 ≤ leI xs / 16 ^ i.toNat := Int.ediv_nonneg hn (Int.pow_nonneg (by decide))
  unfold topN nib
  rw [show (i + 1).toNat = i.toNat + 1 by omega, Int.pow_succ, ← Int.ediv_ediv_of_nonneg (Int.pow_nonneg (by decide))]
  generalize leI xs / 16 ^ i.toNat = q at *
  omega
theorem pmul_two {a : Pt} (h : OnP a) (m : Nat) : padd (pmul m a) (pmul m a) = pmul (m * 2) a := by rw [Nat.mul_two, pmul_add h]
theorem pmul_16 {a : Pt} (h : OnP a) (m : Nat) : padd (pmul (m * 2 * 2 * 2) a) (pmul (m * 2 * 2 * 2) a) = pmul (m * 16) a := by rw [pmul_two h]; congr 1; omega
theorem pmul_dig {a : Pt} (h : OnP a) {xs : List UInt8} {i : Int} (h0 : 0 ≤ i) : padd (pmul (topN xs (i + 1) * 16) a) (pmul (nib xs i).toNat a) = pmul (topN xs i) a := by rw [← pmul_add h, ← topN_step h0]
end Go.Proofs.Ytkngeapegpehpaa.W
