/- The walking engine, part 16: equality of structs and arrays. Nothing here names a program. -/
import Derived.Test.YtkngeapegpehpaaEngO
namespace Go.Eng
open Go Go.IntWalk Go.Op
section
variable {P : Program} (w : World)
theorem run_forall (l : List Nat) (f : Nat → Sem Bool) (b : Nat → Bool) (h : ∀ i, i ∈ l → (f i).run P w = .ok (b i) w) : (do
      for i in l do
        if !(← f i) then return false
      pure true : Sem Bool).run P w = .ok (l.all b) w := by
  induction l with
  | nil => simp
  | cons i l ih =>
    have h0 := h i (by simp)
    have ih := ih (fun j hj => h j (by simp [hj]))
    simp only [List.forIn_cons, Sem.run_bind, h0, Result.andThen_ok, List.all_cons] at ih ⊢
    cases hb : b i <;> simp at ih ⊢
    exact ih
theorem run_eqarr {t e n s d : Nat} (ht : P.underlying t = some (.array n e)) (hsz : ∀ w, (sizeOf e).run P w = .ok s w) (xs ys : Array Value) (b : Nat → Bool) (h : ∀ i, i < n → (do equalIn d e (← part e xs (i * s)) (← part e ys (i * s)) : Sem Bool).run P w = .ok (b i) w) :
    (equalIn (d + 1) t (.agg xs) (.agg ys)).run P w = .ok ((List.range n).all b) w := by
  have := run_forall (P := P) w (List.range' 0 n) (fun i => do equalIn d e (← part e xs (i * s)) (← part e ys (i * s))) b (fun i hi => h i (by simpa using (List.mem_range'_1.1 hi).2))
  rw [equalIn]
  simp only [Sem.run_bind, run_underlying ht, Result.andThen_ok, hsz, Std.Legacy.Range.forIn_eq_forIn_range', Std.Legacy.Range.size, Nat.sub_zero, Nat.add_sub_cancel, Nat.div_one, List.range_eq_range'] at this ⊢
  simp only [bind_assoc] at this
  exact this
theorem run_partAgg {t off s b : Nat} {zs : List Value} {xs : Array Value} (ha : agB P t = true) (hs : Ty P t zs s b) : (part t xs off).run P w = .ok (.agg (xs.extract off (off + s))) w := by
  unfold part
  simp [run_isAgg' ha, hs.sizeOf]
theorem eqf_nil (d : Nat) (xs ys : Array Value) : (eqFields d xs ys []).run P w = .ok true w := by simp [eqFields]
theorem eqf_cons {d : Nat} {xs ys : Array Value} {f : Field} {fs : List Field} {b1 b2 : Bool} {zs : List Value} {s by_ : Nat} (hn : (f.name != "_") = true) (ha : agB P f.type = true) (hs : Ty P f.type zs s by_)
    (h1 : (equalIn d f.type (.agg (xs.extract f.offset (f.offset + s))) (.agg (ys.extract f.offset (f.offset + s)))).run P w = .ok b1 w) (h2 : (eqFields d xs ys fs).run P w = .ok b2 w) : (eqFields d xs ys (f :: fs)).run P w = .ok (b1 && b2) w := by
  have hn' : f.name ≠ "_" := by simpa using hn
  unfold eqFields
  rw [if_pos hn']
  simp only [Sem.run_bind, run_partAgg w ha hs, Result.andThen_ok, h1]
  cases b1
  · simp
  · simp [h2]
theorem run_partInt {t : TypeId} {k : IntKind} {off : Nat} {v : Value} {xs : Array Value} (he : P.underlying t = some (.int k)) (hx : xs[off]? = some v) : (part t xs off).run P w = .ok v w := by
  unfold part isAgg
  simp [run_underlying he, hx]
theorem run_eqiv {t e : TypeId} {n d : Nat} {k : IntKind} {zs : List Value} {b : Nat} (ht : P.underlying t = some (.array n e)) (he : P.underlying e = some (.int k)) (hs : Ty P e zs 1 b) (f g : Nat → Int) :
    (equalIn (d + 2) t (.agg (iv k n f).toArray) (.agg (iv k n g).toArray)).run P w = .ok ((List.range n).all fun i => f i == g i) w := by
  refine run_eqarr (s := 1) w ht (fun w => hs.sizeOf w) _ _ _ (fun i hi => ?_)
  rw [Nat.mul_one]
  have h1 : ∀ f : Nat → Int, (part e (iv k n f).toArray i).run P w = .ok (.int k (f i)) w := fun f => run_partInt w he (by rw [List.getElem?_toArray]; exact iv_get hi)
  simp only [Sem.run_bind, h1, Result.andThen_ok]
  exact run_equalIn_int w d e k k _ _ he
theorem run_eqst {t : TypeId} {d : Nat} {fs : Array Field} {xs ys : Array Value} {b : Bool} (ht : P.underlying t = some (.struct fs)) (hp : P.stoodInHeld t = false) (h : (eqFields d xs ys fs.toList).run P w = .ok b w) : (equalIn (d + 1) t (.agg xs) (.agg ys)).run P w = .ok b w := by
  have hf : P.fieldsOf t = fs := by unfold Program.fieldsOf; rw [ht]
  rw [run_equalIn_struct w d t xs ys (by rw [hf]; exact ht) hp, hf]
  exact h
end
variable {P : Program} {n : Nat} {f : Fr} {w : World} {ty : TypeId}
theorem g_eqst {t u : TypeId} {x y : Operand} {xs ys : Array Value} {b : Bool} (hg : P.eqGuardType P.depth t = false) (hx : f.ev x = some (.agg xs)) (hy : f.ev y = some (.agg ys))
    (h : (equalIn 10000 t (.agg xs) (.agg ys)).run P w = .ok b w) : Gives P n f w (.binOp .eql t x y u) ty (.bool b) w :=
  run_bin hx hy (fun x y => run_eqGuard_agg w _ _ _ _ _ _ hg) (by rw [run_eql_struct, h]; rfl)
theorem g_max {x y : Operand} {k k' : IntKind} {a b : Int} {ts : Array TypeId} (hx : f.ev x = some (.int k a)) (hy : f.ev y = some (.int k' b)) : Gives P n f w (.call { callee := .builtin .max, args := #[x, y], argTypes := ts }) ty (.int k (if b > a then b else a)) w := by
  intro c hc dst pos aft g
  simp [execOp, resolve, invoke, builtin, hc.ev hx, hc.ev hy, run_max_int2]
theorem mx_step {xs : List UInt8} {m i : Int} (h0 : 0 ≤ m) (hi : 0 ≤ i) (h : m = 0 ↔ ∀ j : Nat, (j : Int) < i → gb xs j = 0) : 0 ≤ (if gb xs i > m then gb xs i else m) ∧ ((if gb xs i > m then gb xs i else m) = 0 ↔ ∀ j : Nat, (j : Int) < i + 1 → gb xs j = 0) := by
  have g := gb_range xs i
  have e : ((i.toNat : Nat) : Int) = i := by omega
  refine ⟨by split <;> omega, fun h1 j hj => ?_, fun h1 => ?_⟩
  · by_cases hji : (j : Int) < i
    · refine h.1 ?_ j hji
      split at h1 <;> omega
    · have : (j : Int) = i := by omega
      rw [this]
      split at h1 <;> omega
  · have h2 := h1 i.toNat (by omega)
    have h3 := h.2 (fun j hj => h1 j (by omega))
    rw [e] at h2
    split <;> omega
end Go.Eng
