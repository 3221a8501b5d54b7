/- That encodings are unlike where what they encode is: plain lists. Nothing here names a program. -/
import Derived.Test.YtdbfpmkilchilaaBytesL
namespace Go.Byt
theorem be_succ (n : Int) (k : Nat) : be n (k + 1) = be (n / 256) k ++ [byteAt n 0] := by
  unfold be
  rw [List.range_succ, List.map_append]
  congr 1
  · apply List.map_congr_left
    intro j hj
    have hj : j < k := List.mem_range.1 hj
    unfold byteAt
    have e : (2 : Int) ^ (8 * (k + 1 - 1 - j)) = 256 * 2 ^ (8 * (k - 1 - j)) := by
      have : 8 * (k + 1 - 1 - j) = 8 + 8 * (k - 1 - j) := by omega
      rw [this, Int.pow_add]; rfl
    rw [e, ← Int.ediv_ediv_of_nonneg (by decide)]
  · simp
theorem num_be (k : Nat) : ∀ (n : Int), 0 ≤ n → n < 256 ^ k → num (be n k) = n := by
  induction k with
  | zero => intro n h0 h1; simp at h1; have : n = 0 := by omega
            subst this; rfl
  | succ k ih =>
    intro n h0 h1
    rw [Int.pow_succ] at h1
    rw [be_succ, num_snoc, ih (n / 256) (by omega) (by omega), byteAt_toNat]
    simp; omega
theorem be_inj {a b : Int} {k : Nat} (h : be a k = be b k) (a0 : 0 ≤ a) (a1 : a < 256 ^ k) (b0 : 0 ≤ b) (b1 : b < 256 ^ k) : a = b := by
  rw [← num_be k a a0 a1, h, num_be k b b0 b1]
theorem app_inj {α : Type} {a b r s : List α} (h : a ++ r = b ++ s) (hl : a.length = b.length) : a = b ∧ r = s := List.append_inj h hl
theorem be_app {a b : Int} {k : Nat} {r s : List UInt8} (h : be a k ++ r = be b k ++ s) (a0 : 0 ≤ a) (a1 : a < 256 ^ k) (b0 : 0 ≤ b) (b1 : b < 256 ^ k) : a = b ∧ r = s := by
  obtain ⟨h1, h2⟩ := app_inj h (by simp)
  exact ⟨be_inj h1 a0 a1 b0 b1, h2⟩
/-- The first byte of a length. -/
theorem vlen_head (n : Nat) (h : n < 1073741824) (r : List UInt8) : ∃ x t, vlen n ++ r = x :: t ∧ (n < 64 ∧ x.toNat < 64 ∨ 64 ≤ n ∧ n < 16384 ∧ 64 ≤ x.toNat ∧ x.toNat < 128 ∨ 16384 ≤ n ∧ 128 ≤ x.toNat) := by
  unfold vlen
  split
  · refine ⟨byteAt n 0, r, by simp [be], .inl ⟨by assumption, ?_⟩⟩
    have := byteAt_toNat n 0
    simp at this; omega
  · split
    · refine ⟨byteAt (n + 16384 : Nat) 1, byteAt (n + 16384 : Nat) 0 :: r, by simp [be, List.range_succ], .inr (.inl ?_)⟩
      have := byteAt_toNat (n + 16384 : Nat) 1
      simp only [Nat.mul_one] at this
      rw [show (2 : Int) ^ 8 = 256 from rfl] at this
      omega
    · refine ⟨byteAt (n + 2147483648 : Nat) 3, byteAt (n + 2147483648 : Nat) 2 :: byteAt (n + 2147483648 : Nat) 1 :: byteAt (n + 2147483648 : Nat) 0 :: r, by simp [be, List.range_succ], .inr (.inr ?_)⟩
      have := byteAt_toNat (n + 2147483648 : Nat) 3
      rw [show (2 : Int) ^ (8 * 3) = 16777216 from rfl] at this
      omega
theorem vlen_app {n m : Nat} {r s : List UInt8} (h : vlen n ++ r = vlen m ++ s) (hn : n < 1073741824) (hm : m < 1073741824) : n = m ∧ r = s := by
  obtain ⟨x, t, hx, hc⟩ := vlen_head n hn r
  obtain ⟨y, u, hy, hd⟩ := vlen_head m hm s
  have hxy : x = y := by
    rw [hx, hy] at h; exact (List.cons.inj h).1
  subst hxy
  unfold vlen at h
  by_cases h1 : n < 64
  · have h2 : m < 64 := by omega
    rw [if_pos h1, if_pos h2] at h
    have := be_app h (by omega) (by have : (256 : Int) ^ 1 = 256 := rfl
                                    omega) (by omega) (by have : (256 : Int) ^ 1 = 256 := rfl
                                                          omega)
    exact ⟨by omega, this.2⟩
  · by_cases h2 : n < 16384
    · have h3 : ¬ m < 64 := by omega
      have h4 : m < 16384 := by omega
      rw [if_neg h1, if_pos h2, if_neg h3, if_pos h4] at h
      have e : (256 : Int) ^ 2 = 65536 := rfl
      have := be_app h (by omega) (by omega) (by omega) (by omega)
      exact ⟨by omega, this.2⟩
    · have h3 : ¬ m < 64 := by omega
      have h4 : ¬ m < 16384 := by omega
      rw [if_neg h1, if_neg h2, if_neg h3, if_neg h4] at h
      have e : (256 : Int) ^ 4 = 4294967296 := rfl
      have := be_app h (by omega) (by omega) (by omega) (by omega)
      exact ⟨by omega, this.2⟩
theorem vec_app {xs ys r s : List UInt8} (h : vec xs ++ r = vec ys ++ s) (hx : xs.length ≤ 65536) (hy : ys.length ≤ 65536) : xs = ys ∧ r = s := by
  unfold vec at h
  rw [List.append_assoc, List.append_assoc] at h
  obtain ⟨h1, h2⟩ := vlen_app h (by omega) (by omega)
  exact app_inj h2 h1
end Go.Byt
