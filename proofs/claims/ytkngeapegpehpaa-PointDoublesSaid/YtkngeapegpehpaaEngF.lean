/- The walking engine, part 6: small laws on numbers and facts carried on. Nothing here names a program. -/
import Derived.Test.YtkngeapegpehpaaEngE
namespace Go.Eng
open Go Go.IntWalk
section
variable {P : Program} {n : Nat} {f : Fr} {w : World} {ty : TypeId}
theorem g_shli {k' : IntKind} {t u : TypeId} {x y : Operand} {i j : Int} (hx : f.ev x = some (.int .i64 i)) (hy : f.ev y = some (.int k' j)) (h : 0 ≤ j ∧ j ≤ 64) (hb : -9223372036854775808 ≤ i * 2 ^ j.toNat ∧ i * 2 ^ j.toNat ≤ 9223372036854775807) :
    Gives P n f w (.binOp .shl t x y u) ty (.int .i64 (i * 2 ^ j.toNat)) w := by
  have := g_shl (P := P) (n := n) (w := w) (ty := ty) (t := t) (u := u) hx hy (k := .i64) h
  rwa [i64_in _ hb] at this
theorem g_shrc {k k' : IntKind} {t u : TypeId} {x y : Operand} {i j m : Int} (hx : f.ev x = some (.int k i)) (hy : f.ev y = some (.int k' j)) (h : 0 ≤ j ∧ j ≤ k.bits) (hm : 2 ^ j.toNat = m) :
    Gives P n f w (.binOp .shr t x y u) ty (.int k (i / m)) w := by subst hm; exact g_shr hx hy h
theorem g_shlc {k k' : IntKind} {t u : TypeId} {x y : Operand} {i j m : Int} (hx : f.ev x = some (.int k i)) (hy : f.ev y = some (.int k' j)) (h : 0 ≤ j ∧ j ≤ k.bits) (hm : 2 ^ j.toNat = m) :
    Gives P n f w (.binOp .shl t x y u) ty (.int k (k.wrap (i * m))) w := by subst hm; exact g_shl hx hy h
theorem g_shlic {k' : IntKind} {t u : TypeId} {x y : Operand} {i j m : Int} (hx : f.ev x = some (.int .i64 i)) (hy : f.ev y = some (.int k' j)) (h : 0 ≤ j ∧ j ≤ 64) (hm : 2 ^ j.toNat = m) (hb : -9223372036854775808 ≤ i * m ∧ i * m ≤ 9223372036854775807) :
    Gives P n f w (.binOp .shl t x y u) ty (.int .i64 (i * m)) w := by subst hm; exact g_shli hx hy h hb
theorem g_fold {op : Op} {k : IntKind} {i j : Int} (h : Gives P n f w op ty (.int k i) w) (e : i = j) : Gives P n f w op ty (.int k j) w := by subst e; exact h
theorem bits_or_comm (k : IntKind) (x y : Int) : bits .or k x y = bits .or k y x := by simp only [bits, BitVec.or_comm]
theorem wraps_i64 (n : Int) (h₀ : 0 ≤ n) (h₁ : n < 2 ^ 63) : IntKind.i64.wrap n = n := i64_in n (by omega)
theorem or_add {x y : Int} (i : Nat) (h0 : 0 ≤ x) (hx : x % 2 ^ i = 0) (h1 : x < 9223372036854775808) (h2 : 0 ≤ y) (h3 : y < 2 ^ i) (h4 : y < 9223372036854775808) : bits .or .i64 x y = x + y :=
  bits_join .i64 63 (by decide) wraps_i64 i x y h0 hx (by omega) h2 h3 (by omega)
theorem and_mask {x : Int} (i : Nat) (hi : i ≤ 63) (h0 : 0 ≤ x) (h1 : x < 9223372036854775808) : bits .and .i64 x (2 ^ i - 1) = x % 2 ^ i :=
  bits_mask .i64 63 (by decide) wraps_i64 i hi x h0 (by omega)
end
theorem Own.keepP {w w' : World} {lo p : Nat} {e : TypeId} {s n : Nat} {v : Value} {cs : List Value} (h : Own w lo e s v n cs) (k : Keep [p] w w') (hp : p < lo) : Own w' lo e s v n cs :=
  h.keep k (fun x hx hm => by have := (h.blk x hx).1; simp at hm; omega)
theorem Own.keepS {w w' : World} {lo : Nat} {S : List Nat} {e : TypeId} {s n : Nat} {v : Value} {cs : List Value} (h : Own w lo e s v n cs) (k : Keep S w w') (hp : ∀ p, p ∈ S → p < lo) : Own w' lo e s v n cs :=
  h.keep k (fun x hx hm => by have := (h.blk x hx).1; have := hp x hm; omega)
theorem Bk.keep0 {w w' : World} {b : Nat} {T : TypeId} {cs : List Value} (h : Bk w b T cs) (k : Keep [] w w') : Bk w' b T cs := h.keep k (fun h => by cases h)
theorem Bk.keepP {w w' : World} {b p : Nat} {T : TypeId} {cs : List Value} (h : Bk w b T cs) (k : Keep [p] w w') (hp : b ≠ p) : Bk w' b T cs := h.keep k (fun h => hp (by simpa using h))
end Go.Eng
namespace Go.Eng
/-- A list of slices of bytes. -/
def RdL (w : World) (us : List Value) (ls : List (List UInt8)) : Prop := us.length = ls.length ∧ ∀ (i : Nat) x, ls[i]? = some x → ∃ u, us[i]? = some u ∧ RdB w u x
theorem RdL.keep0 {w w' : World} {us : List Value} {ls : List (List UInt8)} (h : RdL w us ls) (k : Keep [] w w') : RdL w' us ls :=
  ⟨h.1, fun i x hx => let ⟨u, hu, hr⟩ := h.2 i x hx; ⟨u, hu, hr.keep0 k⟩⟩
theorem RdL.get {w : World} {us : List Value} {ls : List (List UInt8)} (h : RdL w us ls) {i : Nat} (hi : i < ls.length) : ∃ u x, ls[i]? = some x ∧ us[i]? = some u ∧ RdB w u x := by
  obtain ⟨u, hu, hr⟩ := h.2 i ls[i] (List.getElem?_eq_getElem hi)
  exact ⟨u, _, List.getElem?_eq_getElem hi, hu, hr⟩
theorem rdL_nil (w : World) : RdL w [] [] := ⟨rfl, fun i x hx => by simp at hx⟩
theorem rdL_cons {w : World} {u : Value} {x : List UInt8} {us : List Value} {ls : List (List UInt8)} (h : RdB w u x) (hl : RdL w us ls) : RdL w (u :: us) (x :: ls) := by
  refine ⟨by simp [hl.1], fun i y hy => ?_⟩
  cases i with
  | zero => simp at hy; subst hy; exact ⟨u, rfl, h⟩
  | succ i => simpa using hl.2 i y (by simpa using hy)
theorem own_bv0 {w : World} {lo : Nat} {e : TypeId} {v : Value} (h : Own w lo e 1 v 0 []) : Own w lo e 1 v 0 (bv []) := h
end Go.Eng
namespace Go.Eng
theorem Rd.cutOne {w : World} {s n l h s' : Nat} {v : Value} {cs : List Value} (hr : Rd w s v n cs) : (Eng.cut v l h s').oneCell' = true := by
  obtain ⟨A, c, rfl, _⟩ := hr; rfl
end Go.Eng
namespace Go.Eng
theorem does_sub {P : Program} {n : Nat} {f : Fr} {w : World} {ty : TypeId} {op : Op} {R : Value → World → Prop} (g : Fr) (hs : Fr.sub g f) (h : Does P n g w op ty R) : Does P n f w op ty R :=
  fun a ha => h a (ha.sub hs)
end Go.Eng
