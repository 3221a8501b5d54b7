import Derived.Test.YtkngeapegpehpaaPth
namespace Go.Proofs.Ytkngeapegpehpaa.W
open Go Go.Eng Go.Byt
set_option linter.unusedVariables false
set_option linter.unusedSimpArgs false
open Go.Fld Go.Ed
attribute [local irreducible] encB
theorem fullR {p : Nat → Int} {a : Pt} (hp : PtR p a) (w : World) : Rets Try.prog 54 [.agg (iv .u64 20 p).toArray] w (fun v w' => ∃ r, v = .agg (iv .u64 20 r).toArray ∧ PtR r a ∧ Keep [] w w') := by
  obtain ⟨Z, hz, h⟩ := hp
  exact (full_any p _ _ _ _ h hz w).mono fun v w' ⟨r, e, h', k⟩ => ⟨r, e, ⟨Z, hz, h'⟩, k⟩
theorem plusR {p q f : Nat → Int} {a b : Pt} (hp : PtR p a) (hq : PtR q b) (oa : OnP a) (ob : OnP b) (hf : El f d) (w : World) : Rets Try.prog 58 [.agg (iv .u64 20 p).toArray, .agg (iv .u64 20 q).toArray, .agg (iv .u64 5 f).toArray] w (fun v w' => ∃ r, v = .agg (iv .u64 20 r).toArray ∧ PtR r (padd a b) ∧ Keep [] w w') := by
  obtain ⟨Z1, h1, hp⟩ := hp
  obtain ⟨Z2, h2, hq⟩ := hq
  exact (pplus_any p q f _ _ _ _ _ _ _ _ _ hp hq hf w).mono fun v w' ⟨r, e, h', k⟩ => ⟨r, e, ptr_plus oa ob h1 h2 h', k⟩
theorem doubleR {p : Nat → Int} {a : Pt} (hp : PtR p a) (oa : OnP a) (w : World) : Rets Try.prog 59 [.agg (iv .u64 20 p).toArray] w (fun v w' => ∃ r, v = .agg (iv .u64 20 r).toArray ∧ PtR r (padd a a) ∧ Keep [] w w') := by
  obtain ⟨Z, hz, hp⟩ := hp
  exact (pdouble_any p _ _ _ _ hp w).mono fun v w' ⟨r, e, h', k⟩ => ⟨r, e, ptr_double oa hz h', k⟩
theorem PplusR {p q : Nat → Int} {a b : Pt} (hp : PtR p a) (hq : PtR q b) (oa : OnP a) (ob : OnP b) (w : World) : Rets Try.prog 23 [.agg (iv .u64 20 p).toArray, .agg (iv .u64 20 q).toArray] w (fun v w' => ∃ r, v = .agg (iv .u64 20 r).toArray ∧ PtR r (padd a b) ∧ Keep [] w w') := by
  obtain ⟨Z1, h1, hp⟩ := hp
  obtain ⟨Z2, h2, hq⟩ := hq
  exact (Pplus_any p q _ _ _ _ _ _ _ _ hp h1 hq h2 w).mono fun v w' ⟨r, e, h', k⟩ => ⟨r, e, ptr_plus oa ob h1 h2 h', k⟩
theorem PnegR {p : Nat → Int} {a : Pt} (hp : PtR p a) (w : World) : Rets Try.prog 27 [.agg (iv .u64 20 p).toArray] w (fun v w' => ∃ r, v = .agg (iv .u64 20 r).toArray ∧ PtR r (pneg a) ∧ Keep [] w w') := by
  obtain ⟨Z, hz, hp⟩ := hp
  exact (Pneg_any p _ _ _ _ hp hz w).mono fun v w' ⟨r, e, h', k⟩ => ⟨r, e, ptr_neg hz h', k⟩
theorem PzeroR (w : World) : Rets Try.prog 15 [] w (fun v w' => ∃ r, v = .agg (iv .u64 20 r).toArray ∧ PtR r zero ∧ Keep [] w w') :=
  (Pzero_any w).mono fun v w' ⟨r, e, h', k⟩ => ⟨r, e, ptr_zero h', k⟩
theorem mul_inv_r {x Z : Fp} (hz : Z ≠ 0) : x * Z * inv Z = x := by
  have := mul_inv hz
  generalize inv Z = i at *
  grind -lia -linarith
theorem PencodeR {p : Nat → Int} {a : Pt} (hp : PtR p a) (w : World) : Rets Try.prog 16 [.agg (iv .u64 20 p).toArray] w (fun v w' => OwnB w' w.heap.size v (encB a.1 a.2) ∧ Keep [] w w') := by
  obtain ⟨Z, hz, hp⟩ := hp
  have h := Pencode_any p _ _ _ _ hp hz w
  rw [mul_inv_r hz, mul_inv_r hz] at h
  exact h
theorem PsameR {p q : Nat → Int} {a b : Pt} (hp : PtR p a) (hq : PtR q b) (w : World) : Rets Try.prog 14 [.agg (iv .u64 20 p).toArray, .agg (iv .u64 20 q).toArray] w (fun v w' => v = .bool (decide (encB a.1 a.2 = encB b.1 b.2)) ∧ Keep [] w w') := by
  obtain ⟨Z1, h1, hp⟩ := hp
  obtain ⟨Z2, h2, hq⟩ := hq
  have h := Psame_any p q _ _ _ _ _ _ _ _ hp h1 hq h2 w
  rw [mul_inv_r h1, mul_inv_r h1, mul_inv_r h2, mul_inv_r h2] at h
  exact h
end Go.Proofs.Ytkngeapegpehpaa.W
