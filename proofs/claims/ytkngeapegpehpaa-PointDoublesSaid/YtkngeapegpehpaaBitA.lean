/- Carries and borrows of sums and differences of 64 bits, by their highest bits. Nothing here names a program. -/
import Derived.Test.YtkngeapegpehpaaEngI
namespace Go.Eng
open Go Go.IntWalk
theorem top63 (v : BitVec 64) : ((v.toNat : Int) / 9223372036854775808) = bif v.msb then 1 else 0 := by
  have h := v.isLt
  rw [BitVec.msb_eq_decide]
  by_cases hc : 2 ^ (64 - 1) ≤ v.toNat
  · rw [decide_eq_true hc]
    simp only [cond_true]
    omega
  · rw [decide_eq_false hc]
    simp only [cond_false]
    omega
theorem u64_toNat (v : BitVec 64) : IntKind.u64.wrap (v.toNat : Int) = v.toNat := IntWalk.u64_in _ (by have := v.isLt; omega)
theorem ofInt_toNat (v : BitVec 64) : BitVec.ofInt 64 (v.toNat : Int) = v := by rw [BitVec.ofInt_natCast, BitVec.ofNat_toNat]; simp
theorem and_u64 (x y : Int) : bits .and .u64 x y = ((BitVec.ofInt 64 x &&& BitVec.ofInt 64 y).toNat : Int) := u64_toNat _
theorem or_u64 (x y : Int) : bits .or .u64 x y = ((BitVec.ofInt 64 x ||| BitVec.ofInt 64 y).toNat : Int) := u64_toNat _
theorem xor_u64 (x y : Int) : bits .xor .u64 x y = ((BitVec.ofInt 64 x ^^^ BitVec.ofInt 64 y).toNat : Int) := u64_toNat _
theorem andNot_u64 (x y : Int) : bits .andNot .u64 x y = ((BitVec.ofInt 64 x &&& ~~~ BitVec.ofInt 64 y).toNat : Int) := u64_toNat _
theorem msb_ofInt {x : Int} (h : In x 0 18446744073709551615) : (BitVec.ofInt 64 x).msb = decide (9223372036854775808 ≤ x) := by
  obtain ⟨n, rfl⟩ := Int.eq_ofNat_of_zero_le h.1
  rw [BitVec.ofInt_natCast, BitVec.msb_eq_decide, BitVec.toNat_ofNat, Nat.mod_eq_of_lt (by unfold In at h; omega)]
  by_cases hc : 2 ^ (64 - 1) ≤ n
  · rw [decide_eq_true hc, decide_eq_true (by omega)]
  · rw [decide_eq_false hc, decide_eq_false (by omega)]
theorem add_carry {x y c s : Int} (hx : In x 0 18446744073709551615) (hy : In y 0 18446744073709551615) (hc : In c 0 1) (hs : s = (x + y + c) % 18446744073709551616) :
    bits .or .u64 (bits .and .u64 x y) (bits .andNot .u64 (bits .or .u64 x y) s) / 9223372036854775808 = (x + y + c) / 18446744073709551616 := by
  have hs' : In s 0 18446744073709551615 := by unfold In; omega
  rw [and_u64, or_u64 x, andNot_u64, or_u64, ofInt_toNat, ofInt_toNat, ofInt_toNat, top63]
  simp only [BitVec.msb_or, BitVec.msb_and, BitVec.msb_not, msb_ofInt hx, msb_ofInt hy, msb_ofInt hs']
  unfold In at *
  by_cases h1 : 9223372036854775808 ≤ x <;> by_cases h2 : 9223372036854775808 ≤ y <;> by_cases h3 : 9223372036854775808 ≤ s <;> simp [h1, h2, h3] <;> omega
theorem sub_borrow {x y c s : Int} (hx : In x 0 18446744073709551615) (hy : In y 0 18446744073709551615) (hc : In c 0 1) (hs : s = (x - y - c) % 18446744073709551616) {nx nxy : Int}
    (hnx : nx = bits .xor .u64 x 18446744073709551615) (hn : nxy = bits .xor .u64 (bits .xor .u64 x y) 18446744073709551615) :
    bits .or .u64 (bits .and .u64 nx y) (bits .and .u64 nxy s) / 9223372036854775808 = bif decide (x - y - c < 0) then 1 else 0 := by
  have hs' : In s 0 18446744073709551615 := by unfold In; omega
  have h64 : In 18446744073709551615 0 18446744073709551615 := by decide
  subst hnx hn
  rw [xor_u64 x 18446744073709551615, xor_u64 x y, and_u64, ofInt_toNat, xor_u64, ofInt_toNat, and_u64, ofInt_toNat, or_u64, ofInt_toNat, ofInt_toNat, top63]
  simp only [BitVec.msb_or, BitVec.msb_and, BitVec.msb_xor, msb_ofInt hx, msb_ofInt hy, msb_ofInt hs', msb_ofInt h64]
  unfold In at *
  by_cases h1 : 9223372036854775808 ≤ x <;> by_cases h2 : 9223372036854775808 ≤ y <;> by_cases h3 : 9223372036854775808 ≤ s <;> by_cases h4 : x - y - c < 0 <;> simp [h1, h2, h3, h4] <;> omega
end Go.Eng
