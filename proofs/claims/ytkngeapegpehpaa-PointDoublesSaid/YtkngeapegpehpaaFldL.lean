/- Numbers mod 2^255 - 19 as limbs and as bytes. Nothing here names a program. -/
import Derived.Test.YtkngeapegpehpaaEdw
import Derived.Test.YtkngeapegpehpaaEngI
import Derived.Test.YtkngeapegpehpaaBytesL
namespace Go.Fld
open Go Go.Eng Go.Ed
theorem fp_lt (x : Int) : (x % (P : Int)).toNat < P := by
  have h1 := Int.emod_lt_of_pos x (show (0 : Int) < (P : Int) by decide)
  have h2 := Int.emod_nonneg x (show (P : Int) ≠ 0 by decide)
  omega
def fp (x : Int) : Fp := ⟨(x % (P : Int)).toNat, fp_lt x⟩
theorem fp_val (x : Int) : ((fp x).val : Int) = x % (P : Int) := by
  have h2 := Int.emod_nonneg x (show (P : Int) ≠ 0 by decide)
  show ((x % (P : Int)).toNat : Int) = _
  omega
theorem fp_ext {a b : Fp} (h : (a.val : Int) = b.val) : a = b := Fin.ext (by omega)
theorem fp_eq {a b : Int} (c : Int) (h : a = b + c * 57896044618658097711785492504343953926634992332820282019728792003956564819949) : fp a = fp b := by
  apply fp_ext
  rw [fp_val, fp_val, h]
  exact Int.add_mul_emod_self_right _ _ _
theorem fp_add (a b : Int) : fp (a + b) = fp a + fp b := by
  apply fp_ext
  rw [fp_val, val_add]
  rw [Int.natCast_emod, Int.natCast_add, fp_val, fp_val, ← Int.add_emod]
theorem fp_mul (a b : Int) : fp (a * b) = fp a * fp b := by
  apply fp_ext
  rw [fp_val, val_mul]
  rw [Int.natCast_emod, Int.natCast_mul, fp_val, fp_val, ← Int.mul_emod]
theorem fp_self (a : Fp) : fp (a.val : Int) = a := by
  apply fp_ext
  rw [fp_val]
  have := a.isLt
  exact Int.emod_eq_of_lt (by omega) (by omega)
theorem fp_sub (a b : Int) : fp (a - b) = fp a - fp b := by
  have h : fp (a - b) + fp b = fp a := by rw [← fp_add, Int.sub_add_cancel]
  grind -lia -linarith
theorem fp_zero : fp 0 = 0 := by decide
theorem fp_one : fp 1 = 1 := by decide
theorem val_of {a : Fp} {x : Int} (h : fp x = a) (h0 : 0 ≤ x) (h1 : x < 57896044618658097711785492504343953926634992332820282019728792003956564819949) : (a.val : Int) = x := by
  subst h
  rw [fp_val]; exact Int.emod_eq_of_lt h0 h1
/-! bytes, the lowest first -/
def leI : List UInt8 → Int
  | [] => 0
  | b :: r => (b.toNat : Int) + 256 * leI r
def leB (n : Int) : Nat → List UInt8
  | 0 => []
  | k + 1 => UInt8.ofNat (n % 256).toNat :: leB (n / 256) k
@[simp] theorem leB_length : ∀ (n : Int) (k : Nat), (leB n k).length = k
  | _, 0 => rfl
  | n, k + 1 => by simp [leB, leB_length _ k]
theorem leI_bound : ∀ xs : List UInt8, 0 ≤ leI xs ∧ leI xs < 256 ^ xs.length
  | [] => by simp [leI]
  | b :: r => by
    have ih := leI_bound r
    have := b.toNat_lt
    simp only [leI, List.length_cons, Int.pow_succ]
    omega
theorem leB_leI : ∀ xs : List UInt8, leB (leI xs) xs.length = xs
  | [] => rfl
  | b :: r => by
    have ih := leB_leI r
    have := b.toNat_lt
    simp only [leI, List.length_cons, leB]
    have e1 : ((b.toNat : Int) + 256 * leI r) % 256 = b.toNat := by omega
    have e2 : ((b.toNat : Int) + 256 * leI r) / 256 = leI r := by omega
    rw [e1, e2, ih]
    simp
theorem leI_leB : ∀ (k : Nat) (n : Int), 0 ≤ n → n < 256 ^ k → leI (leB n k) = n
  | 0, n, h0, h1 => by simp at h1; simp [leB, leI]; omega
  | k + 1, n, h0, h1 => by
    rw [Int.pow_succ] at h1
    simp only [leB, leI]
    rw [leI_leB k (n / 256) (by omega) (by omega)]
    have : (UInt8.ofNat (n % 256).toNat).toNat = (n % 256).toNat := by simp; omega
    rw [this]; omega
theorem leB_inj {a b : Int} {k : Nat} (h : leB a k = leB b k) (a0 : 0 ≤ a) (a1 : a < 256 ^ k) (b0 : 0 ≤ b) (b1 : b < 256 ^ k) : a = b := by
  rw [← leI_leB k a a0 a1, h, leI_leB k b b0 b1]
/-- A number's canonical bytes. -/
def fpB (a : Fp) : List UInt8 := leB (a.val : Int) 32
@[simp] theorem fpB_length (a : Fp) : (fpB a).length = 32 := leB_length _ _
theorem fpB_inj {a b : Fp} (h : fpB a = fpB b) : a = b := by
  have h1 : a.val < 57896044618658097711785492504343953926634992332820282019728792003956564819949 := a.isLt
  have h2 : b.val < 57896044618658097711785492504343953926634992332820282019728792003956564819949 := b.isLt
  have e : (256 : Int) ^ 32 = 115792089237316195423570985008687907853269984665640564039457584007913129639936 := by decide
  exact fp_ext (leB_inj h (by omega) (by rw [e]; omega) (by omega) (by rw [e]; omega))
theorem carry_bounds {f0 f1 f2 f3 f4 c0 c1 c2 c3 c4 h0 h1 h2 h3 h4 b0 b1 b2 b3 b4 t : Int} (e0 : c0 = f0 / 2251799813685248) (e1 : c1 = (f1 + c0) / 2251799813685248) (e2 : c2 = (f2 + c1) / 2251799813685248) (e3 : c3 = (f3 + c2) / 2251799813685248) (e4 : c4 = (f4 + c3) / 2251799813685248)
    (g0 : h0 = f0 % 2251799813685248 + 19 * c4) (g1 : h1 = (f1 + c0) % 2251799813685248) (g2 : h2 = (f2 + c1) % 2251799813685248) (g3 : h3 = (f3 + c2) % 2251799813685248) (g4 : h4 = (f4 + c3) % 2251799813685248)
    (r0 : In f0 0 b0) (r1 : In f1 0 b1) (r2 : In f2 0 b2) (r3 : In f3 0 b3) (r4 : In f4 0 b4)
    (ht : 2251799813685247 + 19 * ((b4 + (b3 + (b2 + (b1 + b0 / 2251799813685248) / 2251799813685248) / 2251799813685248) / 2251799813685248) / 2251799813685248) = t) :
    In h0 0 t ∧ In h1 0 2251799813685247 ∧ In h2 0 2251799813685247 ∧ In h3 0 2251799813685247 ∧ In h4 0 2251799813685247 := by
  unfold In at *
  omega
/-! five limbs of 51 bits -/
def val5 (f : Nat → Int) : Int := f 0 + f 1 * 2251799813685248 + f 2 * 5070602400912917605986812821504 + f 3 * 11417981541647679048466287755595961091061972992 + f 4 * 25711008708143844408671393477458601640355247900524685364822016
def El (f : Nat → Int) (a : Fp) : Prop :=
  In (f 0) 0 4503599627370495 ∧ In (f 1) 0 4503599627370495 ∧ In (f 2) 0 4503599627370495 ∧ In (f 3) 0 4503599627370495 ∧ In (f 4) 0 4503599627370495 ∧ fp (val5 f) = a
theorem mul_val5 (f g : Nat → Int) : val5 f * val5 g =
    (f 0 * g 0 + 19 * (f 1 * g 4) + 19 * (f 2 * g 3) + 19 * (f 3 * g 2) + 19 * (f 4 * g 1)) + (f 0 * g 1 + f 1 * g 0 + 19 * (f 2 * g 4) + 19 * (f 3 * g 3) + 19 * (f 4 * g 2)) * 2251799813685248 +
    (f 0 * g 2 + f 1 * g 1 + f 2 * g 0 + 19 * (f 3 * g 4) + 19 * (f 4 * g 3)) * 5070602400912917605986812821504 + (f 0 * g 3 + f 1 * g 2 + f 2 * g 1 + f 3 * g 0 + 19 * (f 4 * g 4)) * 11417981541647679048466287755595961091061972992 +
    (f 0 * g 4 + f 1 * g 3 + f 2 * g 2 + f 3 * g 1 + f 4 * g 0) * 25711008708143844408671393477458601640355247900524685364822016 +
    (f 1 * g 4 + f 2 * g 3 + f 3 * g 2 + f 4 * g 1 + (f 2 * g 4 + f 3 * g 3 + f 4 * g 2) * 2251799813685248 + (f 3 * g 4 + f 4 * g 3) * 5070602400912917605986812821504 + f 4 * g 4 * 11417981541647679048466287755595961091061972992) * 57896044618658097711785492504343953926634992332820282019728792003956564819949 := by
  unfold val5
  generalize f 0 = x0; generalize f 1 = x1; generalize f 2 = x2; generalize f 3 = x3; generalize f 4 = x4
  generalize g 0 = y0; generalize g 1 = y1; generalize g 2 = y2; generalize g 3 = y3; generalize g 4 = y4
  grind -lia -linarith
/-- Five sums of products as limbs, the first behind a product by 19 of what is above. -/
theorem mul_fp {f g h : Nat → Int} {a b : Fp} (hf : fp (val5 f) = a) (hg : fp (val5 g) = b) (c t0 t1 t2 t3 t4 : Int)
    (e0 : t0 = f 0 * g 0 + 19 * (f 1 * g 4) + 19 * (f 2 * g 3) + 19 * (f 3 * g 2) + 19 * (f 4 * g 1)) (e1 : t1 = f 0 * g 1 + f 1 * g 0 + 19 * (f 2 * g 4) + 19 * (f 3 * g 3) + 19 * (f 4 * g 2))
    (e2 : t2 = f 0 * g 2 + f 1 * g 1 + f 2 * g 0 + 19 * (f 3 * g 4) + 19 * (f 4 * g 3)) (e3 : t3 = f 0 * g 3 + f 1 * g 2 + f 2 * g 1 + f 3 * g 0 + 19 * (f 4 * g 4)) (e4 : t4 = f 0 * g 4 + f 1 * g 3 + f 2 * g 2 + f 3 * g 1 + f 4 * g 0)
    (hh : val5 h + c * 57896044618658097711785492504343953926634992332820282019728792003956564819949 = t0 + t1 * 2251799813685248 + t2 * 5070602400912917605986812821504 + t3 * 11417981541647679048466287755595961091061972992 + t4 * 25711008708143844408671393477458601640355247900524685364822016) : fp (val5 h) = a * b := by
  rw [← hf, ← hg, ← fp_mul, mul_val5, ← e0, ← e1, ← e2, ← e3, ← e4]
  refine fp_eq (-c - (f 1 * g 4 + f 2 * g 3 + f 3 * g 2 + f 4 * g 1 + (f 2 * g 4 + f 3 * g 3 + f 4 * g 2) * 2251799813685248 + (f 3 * g 4 + f 4 * g 3) * 5070602400912917605986812821504 + f 4 * g 4 * 11417981541647679048466287755595961091061972992)) ?_
  generalize f 1 * g 4 + f 2 * g 3 + f 3 * g 2 + f 4 * g 1 + (f 2 * g 4 + f 3 * g 3 + f 4 * g 2) * 2251799813685248 + (f 3 * g 4 + f 4 * g 3) * 5070602400912917605986812821504 + f 4 * g 4 * 11417981541647679048466287755595961091061972992 = q
  omega
end Go.Fld
