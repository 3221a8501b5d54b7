/- The walking engine, part 9: arrays of numbers; numbers within bounds, each under a name of its own. Nothing here names a program. -/
import Derived.Test.YtkngeapegpehpaaEngH
namespace Go.Eng
open Go Go.IntWalk
/-! ### Rows of numbers -/
def ivF (k : IntKind) (f : Nat → Int) : Nat → Nat → List Value
  | _, 0 => []
  | i, n + 1 => .int k (f i) :: ivF k f (i + 1) n
abbrev iv (k : IntKind) (n : Nat) (f : Nat → Int) : List Value := ivF k f 0 n
def upd (f : Nat → Int) (i : Nat) (v : Int) : Nat → Int := fun j => bif Nat.beq j i then v else f j
theorem upd_same (f : Nat → Int) (i : Nat) (v : Int) : upd f i v i = v := by simp [upd]
theorem upd_other (f : Nat → Int) {i j : Nat} (v : Int) (h : j ≠ i) : upd f i v j = f j := by
  unfold upd
  have : Nat.beq j i = false := by
    cases hb : Nat.beq j i with
    | false => rfl
    | true => exact absurd (Nat.eq_of_beq_eq_true hb) h
  rw [this]; rfl
def vecN (l : List Int) : Nat → Int := fun i => l.getD i 0
@[simp] theorem ivF_length (k : IntKind) (f : Nat → Int) : ∀ (n i : Nat), (ivF k f i n).length = n
  | 0, _ => rfl
  | n + 1, i => by simp [ivF, ivF_length k f n]
theorem ivF_get (k : IntKind) (f : Nat → Int) : ∀ (n i j : Nat), j < n → (ivF k f i n)[j]? = some (.int k (f (i + j)))
  | 0, _, _, h => by omega
  | n + 1, i, 0, _ => rfl
  | n + 1, i, j + 1, h => by
    simp only [ivF, List.getElem?_cons_succ]
    rw [ivF_get k f n (i + 1) j (by omega), Nat.add_assoc, Nat.add_comm 1 j]
theorem iv_get {k : IntKind} {f : Nat → Int} {n j : Nat} (h : j < n) : (iv k n f)[j]? = some (.int k (f j)) := by rw [iv, ivF_get k f n 0 j h, Nat.zero_add]
theorem ivF_congr {k : IntKind} {f g : Nat → Int} : ∀ {n i : Nat}, (∀ j, i ≤ j → j < i + n → f j = g j) → ivF k f i n = ivF k g i n
  | 0, _, _ => rfl
  | n + 1, i, h => by simp only [ivF]; rw [h i (Nat.le_refl _) (by omega), ivF_congr (n := n) (i := i + 1) (fun j h1 h2 => h j (by omega) (by omega))]
theorem ivF_set (k : IntKind) (f : Nat → Int) (v : Int) : ∀ (n i j : Nat), (ivF k f i n).set j (.int k v) = ivF k (upd f (i + j) v) i n
  | 0, _, _ => rfl
  | n + 1, i, 0 => by
    simp only [ivF, List.set_cons_zero, Nat.add_zero]
    rw [upd_same]
    exact congrArg _ (ivF_congr (g := upd f i v) (fun j h1 h2 => (upd_other f v (by omega)).symm))
  | n + 1, i, j + 1 => by
    simp only [ivF, List.set_cons_succ]
    rw [upd_other f v (by omega), ivF_set k f v n (i + 1) j, Nat.add_assoc, Nat.add_comm 1 j]
theorem iv_set {k : IntKind} {f : Nat → Int} {n j : Nat} {v : Int} : (iv k n f).set j (.int k v) = iv k n (upd f j v) := by rw [iv, ivF_set, Nat.zero_add]
theorem ivF_one {k : IntKind} {f : Nat → Int} : ∀ {n i : Nat}, ∀ u ∈ ivF k f i n, u.oneCell' = true
  | 0, _, u, h => by cases h
  | n + 1, i, u, h => by
    simp only [ivF, List.mem_cons] at h
    rcases h with rfl | h
    · rfl
    · exact ivF_one u h
theorem ivF_rep (k : IntKind) (x : Int) : ∀ (n i : Nat), ivF k (fun _ => x) i n = List.replicate n (.int k x)
  | 0, _ => rfl
  | n + 1, i => by rw [ivF, ivF_rep k x n, List.replicate_succ]

/-! ### Bounds -/
def In (x lo hi : Int) : Prop := lo ≤ x ∧ x ≤ hi
def Le (a b : Int) : Prop := a ≤ b
instance (a b : Int) : Decidable (Le a b) := inferInstanceAs (Decidable (a ≤ b))
instance (x lo hi : Int) : Decidable (In x lo hi) := inferInstanceAs (Decidable (lo ≤ x ∧ x ≤ hi))
/-- An equation that other work does not look at. -/
def Eqn (z e : Int) : Prop := z = e
def chk (lo hi a b : Int) : Bool := decide (lo ≤ a) && decide (b ≤ hi)
theorem chk_le {lo hi a b : Int} (h : chk lo hi a b = true) : lo ≤ a ∧ b ≤ hi := by simpa [chk] using h
theorem In.wk {x a b lo hi : Int} (h : In x a b) (hc : chk lo hi a b = true) : In x lo hi := by
  have := chk_le hc; unfold In at *; omega
def kmin : IntKind → Int
  | .i8 => -128 | .i16 => -32768 | .i32 => -2147483648 | .i64 => -9223372036854775808
  | _ => 0
def kmax : IntKind → Int
  | .i8 => 127 | .i16 => 32767 | .i32 => 2147483647 | .i64 => 9223372036854775807
  | .u8 => 255 | .u16 => 65535 | .u32 => 4294967295 | .u64 => 18446744073709551615
def kmod : IntKind → Int
  | .i8 | .u8 => 256 | .i16 | .u16 => 65536 | .i32 | .u32 => 4294967296 | .i64 | .u64 => 18446744073709551616
def fits (k : IntKind) (a b : Int) : Bool := decide (kmin k ≤ a) && decide (b ≤ kmax k)
theorem wrap_fit {k : IntKind} {x a b : Int} (h : In x a b) (hf : fits k a b = true) : k.wrap x = x := by
  simp only [fits, Bool.and_eq_true, decide_eq_true_eq] at hf
  unfold In at h
  cases k <;> simp only [kmin, kmax] at hf
  · exact IntWalk.i8_in _ (by omega)
  · exact IntWalk.i16_in _ (by omega)
  · exact IntWalk.i32_in _ (by omega)
  · exact IntWalk.i64_in _ (by omega)
  · exact IntWalk.u8_in _ (by omega)
  · exact IntWalk.u16_in _ (by omega)
  · exact IntWalk.u32_in _ (by omega)
  · exact IntWalk.u64_in _ (by omega)
def uns : IntKind → Bool
  | .u8 | .u16 | .u32 | .u64 => true
  | _ => false
theorem wrap_uns {k : IntKind} (hk : uns k = true) (x : Int) : k.wrap x = x % kmod k := by
  cases k <;> first | (exact absurd hk (by decide)) | (simp [IntKind.wrap, IntKind.bits, IntKind.signed, kmod])
theorem in_bif (b : Bool) : In (bif b then 1 else 0) 0 1 := by cases b <;> decide
theorem in_c (c : Int) : In c c c := ⟨Int.le_refl _, Int.le_refl _⟩
theorem in_add {x y a b c d : Int} (hx : In x a b) (hy : In y c d) : In (x + y) (a + c) (b + d) := by unfold In at *; omega
theorem in_sub {x y a b c d : Int} (hx : In x a b) (hy : In y c d) : In (x - y) (a - d) (b - c) := by unfold In at *; omega
theorem in_mul {x y a b c d : Int} (hx : In x a b) (hy : In y c d) (ha : 0 ≤ a) (hc : 0 ≤ c) : In (x * y) (a * c) (b * d) := by
  unfold In at *
  exact ⟨Int.mul_le_mul hx.1 hy.1 hc (by omega), Int.mul_le_mul hx.2 hy.2 (by omega) (by omega)⟩
theorem in_mulc {x a b c : Int} (hx : In x a b) (hc : 0 ≤ c) : In (x * c) (a * c) (b * c) := by
  unfold In at *
  exact ⟨Int.mul_le_mul_of_nonneg_right hx.1 hc, Int.mul_le_mul_of_nonneg_right hx.2 hc⟩
theorem in_cmul {x a b c : Int} (hx : In x a b) (hc : 0 ≤ c) : In (c * x) (c * a) (c * b) := by
  unfold In at *
  exact ⟨Int.mul_le_mul_of_nonneg_left hx.1 hc, Int.mul_le_mul_of_nonneg_left hx.2 hc⟩
theorem in_div {x a b m : Int} (hx : In x a b) (hm : 0 < m) : In (x / m) (a / m) (b / m) := by
  unfold In at *
  exact ⟨Int.ediv_le_ediv hm hx.1, Int.ediv_le_ediv hm hx.2⟩
theorem in_mod (x : Int) {m : Int} (hm : 0 < m) : In (x % m) 0 (m - 1) := by
  have := Int.emod_nonneg x (Int.ne_of_gt hm); have := Int.emod_lt_of_pos x hm
  unfold In; omega
theorem wraps_of {k : IntKind} (hk : uns k = true) : ∀ n : Int, 0 ≤ n → n < 2 ^ k.bits → k.wrap n = n := by
  intro n h0 h1
  rw [wrap_uns hk]
  have : kmod k = 2 ^ k.bits := by cases k <;> first | (exact absurd hk (by decide)) | rfl
  rw [this]; exact Int.emod_eq_of_lt h0 h1
theorem bits_in {k : IntKind} (hk : uns k = true) (op : BinOp) (x y : Int) : In (bits op k x y) 0 (kmax k) := by
  unfold bits
  simp only [wrap_uns hk]
  have h : kmax k = kmod k - 1 := by cases k <;> first | (exact absurd hk (by decide)) | rfl
  rw [h]
  exact in_mod _ (by cases k <;> decide)
/-- m is 2 to the power s. -/
def pw2 (s : Nat) : Int → Bool
  | .ofNat m => Nat.beq m (2 ^ s)
  | .negSucc _ => false
theorem pw2_eq {s : Nat} {m : Int} (h : pw2 s m = true) : m = 2 ^ s := by
  cases m with
  | ofNat m =>
    have := Nat.eq_of_beq_eq_true h
    subst this
    simp
  | negSucc m => cases h
theorem and_mod {k : IntKind} {x a b : Int} (s : Nat) {c m : Int} (hx : In x a b) (hf : fits k a b = true) (hk : uns k = true) (h0 : decide (0 ≤ a) = true) (hs : Nat.ble s k.bits = true) (hc : pw2 s (c + 1) = true) (hm0 : pw2 s m = true) : bits .and k x c = x % m := by
  have hm := pw2_eq hm0
  have hc := pw2_eq hc
  subst hm
  obtain rfl : c = 2 ^ s - 1 := by omega
  have hb : x < 2 ^ k.bits := by
    have : kmax k + 1 = 2 ^ k.bits := by cases k <;> first | (exact absurd hk (by decide)) | rfl
    simp only [fits, Bool.and_eq_true, decide_eq_true_eq] at hf
    unfold In at hx; omega
  have h0' := of_decide_eq_true h0
  exact bits_mask k k.bits (Nat.le_refl _) (wraps_of hk) s (Nat.le_of_ble_eq_true hs) x (by unfold In at hx; omega) hb
theorem or_join {k : IntKind} {x y a b c d : Int} (s : Nat) {m : Int} (hx : In x a b) (hfx : fits k a b = true) (hy : In y c d) (hk : uns k = true) (h0 : decide (0 ≤ a) = true) (h1 : decide (0 ≤ c) = true) (hm0 : pw2 s m = true) (hxm : x % m = 0) (hd : decide (d < m) = true) (hs : Nat.ble s k.bits = true) : bits .or k x y = x + y := by
  have hm := pw2_eq hm0
  subst hm
  have hkm : kmax k + 1 = 2 ^ k.bits := by cases k <;> first | (exact absurd hk (by decide)) | rfl
  simp only [fits, Bool.and_eq_true, decide_eq_true_eq] at hfx
  have h0' := of_decide_eq_true h0
  have h1' := of_decide_eq_true h1
  have hd' := of_decide_eq_true hd
  unfold In at hx hy
  have hle : (2 : Int) ^ s ≤ 2 ^ k.bits := by
    have := Nat.pow_le_pow_right (show 0 < 2 by decide) (Nat.le_of_ble_eq_true hs)
    exact_mod_cast this
  exact bits_join k k.bits (Nat.le_refl _) (wraps_of hk) s x y (by omega) hxm (by omega) (by omega) (by omega) (by omega)
theorem bits_or_comm' (k : IntKind) (x y : Int) : bits .or k x y = bits .or k y x := by simp only [bits, BitVec.or_comm]
theorem or_join' {k : IntKind} {x y a b c d : Int} (s : Nat) {m : Int} (hx : In x a b) (hfx : fits k a b = true) (hy : In y c d) (hk : uns k = true) (h0 : decide (0 ≤ a) = true) (h1 : decide (0 ≤ c) = true) (hm0 : pw2 s m = true) (hxm : x % m = 0) (hd : decide (d < m) = true) (hs : Nat.ble s k.bits = true) : bits .or k y x = y + x := by
  rw [bits_or_comm', or_join s hx hfx hy hk h0 h1 hm0 hxm hd hs, Int.add_comm]
theorem mul_mod_mod (a : Int) {m M : Int} (h : M % m = 0) : a * m % M % m = 0 := by
  rw [Int.emod_emod_of_dvd _ (Int.dvd_of_emod_eq_zero h), Int.mul_emod_left]
theorem eq_mod {x e m : Int} (h : x = e) (he : e % m = 0) : x % m = 0 := by rw [h]; exact he
section
variable {P : Program} {n : Nat} {f : Fr} {w : World} {ty : TypeId} {fin : Exit → Act → World → Prop} {k : List KI} {ops : Array Oper} {l : List Oper}
theorem ow_gx {op : Op} {d : Nat} {pos : String} {aft : Array Edge} {kd : IntKind} {e e' lo hi : Int} (hr : Gives P n f w op ty (.int kd e) w) (he : e = e') (hb : In e' lo hi) (hd : Nat.blt d n = true)
    (h : ∀ z, Eqn z e' → In z lo hi → OW P fin n k ops l ((d, .int kd z) :: f) w) : OW P fin n k ops (⟨some d, op, ty, pos, aft, none⟩ :: l) f w := by
  subst he; exact ow_g hr hd (h _ rfl hb)
theorem ow_gz {op : Op} {d : Nat} {pos : String} {aft : Array Edge} {kd : IntKind} {e e' : Int} (hr : Gives P n f w op ty (.int kd e) w) (he : e = e') (hd : Nat.blt d n = true)
    (h : ∀ z, Eqn z e' → OW P fin n k ops l ((d, .int kd z) :: f) w) : OW P fin n k ops (⟨some d, op, ty, pos, aft, none⟩ :: l) f w := by
  subst he; exact ow_g hr hd (h _ rfl)
theorem g_shrp {k k' : IntKind} {t u : TypeId} {x y : Operand} {i j m : Int} (hx : f.ev x = some (.int k i)) (hy : f.ev y = some (.int k' j)) (h : 0 ≤ j ∧ j ≤ k.bits) (hm : pw2 j.toNat m = true) :
    Gives P n f w (.binOp .shr t x y u) ty (.int k (i / m)) w := by have := pw2_eq hm; subst this; exact g_shr hx hy h
theorem g_shlp {k k' : IntKind} {t u : TypeId} {x y : Operand} {i j m : Int} (hx : f.ev x = some (.int k i)) (hy : f.ev y = some (.int k' j)) (h : 0 ≤ j ∧ j ≤ k.bits) (hm : pw2 j.toNat m = true) :
    Gives P n f w (.binOp .shl t x y u) ty (.int k (k.wrap (i * m))) w := by have := pw2_eq hm; subst this; exact g_shl hx hy h
/-- The address of an array's element. -/
theorem g_ixa {x y : Operand} {t e : TypeId} {m : Nat} {zs : List Value} {s b : Nat} {blk o : Nat} {kd : IntKind} {i : Int} (ht : P.underlying t = some (.array m e)) (he : Ty P e zs s b)
    (hx : f.ev x = some (.pointer (some ⟨blk, o, none⟩))) (hy : f.ev y = some (.int kd i)) (h : 0 ≤ i ∧ i < m) :
    Gives P n f w (.indexAddr t x y) ty (.pointer (some ⟨blk, o + i.toNat * s, none⟩)) w := by
  intro a ha dst pos aft g
  simp [execOp, ha.ev hx, ha.ev hy, Instr.indexAt, asIntOf, run_underlying ht, he.sizeOf, h.1, h.2, Instr.sureAddr, Addr.add_lit]
/-- An element of an array that is held: of one cell, of several. -/
theorem g_ixv {x y : Operand} {t e : TypeId} {m : Nat} {zs cs : List Value} {b : Nat} {kd : IntKind} {i : Int} {u : Value} (ht : P.underlying t = some (.array m e)) (he : Ty P e zs 1 b) (hsc : scB P e = true)
    (hx : f.ev x = some (.agg cs.toArray)) (hy : f.ev y = some (.int kd i)) (h : 0 ≤ i ∧ i < m) (hc : cs[i.toNat]? = some u) :
    Gives P n f w (.index t x y) ty u w := by
  intro a ha dst pos aft g
  simp [execOp, ha.ev hx, ha.ev hy, Instr.index, asIntOf, run_underlying ht, he.sizeOf, h.1, h.2, part, run_isAgg hsc, hc]
theorem g_ixva {x y : Operand} {t e : TypeId} {m : Nat} {zs cs cs' : List Value} {s b : Nat} {kd : IntKind} {i : Int} (ht : P.underlying t = some (.array m e)) (he : Ty P e zs s b) (hag : agB P e = true)
    (hx : f.ev x = some (.agg cs.toArray)) (hy : f.ev y = some (.int kd i)) (h : 0 ≤ i ∧ i < m) (hc : (cs.drop (i.toNat * s)).take s = cs') :
    Gives P n f w (.index t x y) ty (.agg cs'.toArray) w := by
  intro a ha dst pos aft g
  subst hc
  simp [execOp, ha.ev hx, ha.ev hy, Instr.index, asIntOf, run_underlying ht, he.sizeOf, h.1, h.2, part, run_isAgg' hag, List.extract_eq_take_drop]
end
end Go.Eng
