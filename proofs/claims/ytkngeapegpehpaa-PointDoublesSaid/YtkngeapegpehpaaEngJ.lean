/- The walking engine, part 10: regions that draw their order and only read, up to a tail: walked once, in order. Nothing here names a program. -/
import Derived.Test.YtkngeapegpehpaaEngI
import Derived.StillTail
namespace Go.Eng
open Go Go.IntWalk
section
variable {P : Program} {n : Nat} {f : Fr} {w : World} {ty : TypeId} {fin : Exit → Act → World → Prop} {k : List KI} {ops : Array Oper} {tl l : List Oper}
/-- The operations of a region's head, which only read; behind them those of its tail. -/
def SW (P : Program) (fin : Exit → Act → World → Prop) (n : Nat) (k : List KI) (ops : Array Oper) (tl : List Oper) (l : List Oper) (f : Fr) (w : World) : Prop :=
  ∀ a, Kn n f a → wpStill P ops w (fun a' => wpList P ops (KQ P fin k) tl a' w) l a
theorem tw_still {id : Nat} {l : List Oper} (m : Nat) (hm : P.follows .mixedOrders = true) (hB : Region.lexTailB .any l.toArray m = true)
    (h : ∀ w1, Keep [] w w1 → SW P fin n k l.toArray (l.drop m) (l.take m) f w1) : TW P fin n (.c (.region id l.toArray true) :: k) f w :=
  fun a ha => wp_region_still_tail m hm hB (h _ (keep_drew w) a ha)
theorem tw_stillA {id : Nat} {l : List Oper} (hm : P.follows .mixedOrders = true) (hB : Region.lexB .any l.toArray = true)
    (h : ∀ w1, Keep [] w w1 → SW P fin n k l.toArray [] l f w1) : TW P fin n (.c (.region id l.toArray true) :: k) f w :=
  fun a ha => wp_region_still_lit hm hB (h _ (keep_drew w) a ha)
theorem sw_nil (h : OW P fin n k ops tl f w) : SW P fin n k ops tl [] f w := fun a ha => wpStill_nil (h a ha)
theorem sw_keep (g : Fr) (hs : Fr.sub g f) (h : SW P fin n k ops tl l g w) : SW P fin n k ops tl l f w := fun a ha => h a (ha.sub hs)
theorem sw_g {op : Op} {d : Nat} {pos : String} {aft : Array Edge} {v : Value} (hr : Gives P n f w op ty v w) (hd : Nat.blt d n = true)
    (h : SW P fin n k ops tl l ((d, v) :: f) w) : SW P fin n k ops tl (⟨some d, op, ty, pos, aft, none⟩ :: l) f w := by
  intro a ha
  refine wpStill_step fun K hK => ?_
  rw [if_pos (by simp [Region.wanted])]
  unfold Oper.still
  rw [hr a ha, Oper.stillUpon_value]
  exact hK _ (h _ (ha.put (blt_lt hd) v))
theorem sw_gx {op : Op} {d : Nat} {pos : String} {aft : Array Edge} {kd : IntKind} {e e' lo hi : Int} (hr : Gives P n f w op ty (.int kd e) w) (he : e = e') (hb : In e' lo hi) (hd : Nat.blt d n = true)
    (h : ∀ z, Eqn z e' → In z lo hi → SW P fin n k ops tl l ((d, .int kd z) :: f) w) : SW P fin n k ops tl (⟨some d, op, ty, pos, aft, none⟩ :: l) f w := by
  subst he; exact sw_g hr hd (h _ rfl hb)
theorem sw_gz {op : Op} {d : Nat} {pos : String} {aft : Array Edge} {kd : IntKind} {e e' : Int} (hr : Gives P n f w op ty (.int kd e) w) (he : e = e') (hd : Nat.blt d n = true)
    (h : ∀ z, Eqn z e' → SW P fin n k ops tl l ((d, .int kd z) :: f) w) : SW P fin n k ops tl (⟨some d, op, ty, pos, aft, none⟩ :: l) f w := by
  subst he; exact sw_g hr hd (h _ rfl)
theorem still_call {i : FuncId} {args : Array Operand} {ats : Array TypeId} {vs : List Value} {v : Value} {dst : Option Tmp} {pos : String} {aft : Array Edge} {g : Option (Nat × Bool)} {a : Act} {K : Act → Prop} (ha : Kn n f a)
    (hx : f.evs args.toList = some vs) (hc : Rets P i vs w (fun v' w' => v' = v ∧ w = w')) (h : K (a.put dst v)) : Oper.still P ⟨dst, .call { callee := .value (.func i), args := args, argTypes := ats }, ty, pos, aft, g⟩ a w K := by
  obtain ⟨⟨fn, hf, hb, hnm⟩, hcalls⟩ := hc
  have hb' : fn.body.isNone = false := by cases h : fn.body <;> simp_all
  have hm : args.map a.eval = vs.toArray := by rw [← Array.toList_inj]; simp [ha.evs hx]
  have hr : (execOp a.eval ⟨dst, .call { callee := .value (.func i), args := args, argTypes := ats }, ty, pos, aft, g⟩).run P w = .ok (.enter i vs.toArray) w := by
    have hcf : (callFunc i vs.toArray).run P w = .ok (.enter i vs.toArray) w := by
      simp only [callFunc, Sem.run_bind, run_program, Result.andThen_ok, hf, hnm, Bool.false_eq_true, if_false, hb', Sem.run_pure]
    simp [execOp, resolve, Deferred.ofValue, Act.eval, invoke, hm, hcf]
  unfold Oper.still
  rw [hr]
  exact ⟨rfl, v, Calls.mono hcalls fun e w' ⟨v', he, hv, hw⟩ => ⟨by rw [he, hv], hw.symm⟩, h⟩
theorem sw_call {d : Nat} {pos : String} {aft : Array Edge} {i : FuncId} {args : Array Operand} {ats : Array TypeId} {vs : List Value} {v : Value} (hx : f.evs args.toList = some vs) (hc : Rets P i vs w (fun v' w' => v' = v ∧ w = w')) (hd : Nat.blt d n = true)
    (h : SW P fin n k ops tl l ((d, v) :: f) w) : SW P fin n k ops tl (⟨some d, .call { callee := .value (.func i), args := args, argTypes := ats }, ty, pos, aft, none⟩ :: l) f w := by
  intro a ha
  refine wpStill_step fun K hK => ?_
  rw [if_pos (by simp [Region.wanted])]
  exact still_call ha hx hc (hK _ (h _ (ha.put (blt_lt hd) v)))
theorem sw_grp (d : Nat) (want : Bool) {b : Bool} (_hf : f.get d = some (.bool b)) (h : ∀ c, c = (b == want) → SW P fin n k ops tl l f w) : SW P fin n k ops tl l f w := h _ rfl
theorem sw_grp2 (d : Nat) (want : Bool) {b c' : Bool} (_hf : f.get d = some (gv c' (.bool b))) (h : ∀ c, c = (c' && (b == want)) → SW P fin n k ops tl l f w) : SW P fin n k ops tl l f w := h _ rfl
theorem sw_gg (f1 : Fr) {op : Op} {d : Nat} {pos : String} {aft : Array Edge} {j : Nat} {want c : Bool} {v : Value} (hG : Grd n ops f j want c) (hs : UndF c f1 f) (hr : c = true → Gives P n f1 w op ty v w) (hd : Nat.blt d n = true)
    (h : SW P fin n k ops tl l ((d, gv c v) :: f) w) : SW P fin n k ops tl (⟨some d, op, ty, pos, aft, some (j, want)⟩ :: l) f w := by
  intro a ha
  have hg := hG a ha
  refine wpStill_step fun K hK => ?_
  have hwt : Region.wanted ⟨some d, op, ty, pos, aft, some (j, want)⟩ (yielded ops a.tmps) = c := hg
  rw [hwt]
  have h' := h _ (ha.put (blt_lt hd) (gv c v))
  cases hc : c with
  | true =>
    rw [if_pos rfl]
    unfold Oper.still
    rw [hr hc a (ha.undF hc hs), Oper.stillUpon_value]
    rw [gv_true hc] at h'
    exact hK _ h'
  | false =>
    rw [if_neg (by simp)]
    rw [gv_false hc] at h'
    exact hK _ h'
theorem sw_gy {op : Op} {d : Nat} {pos : String} {aft : Array Edge} {j : Nat} {want : Bool} {v : Value} (hG : Grd n ops f j want true) (hr : Gives P n f w op ty v w) (hd : Nat.blt d n = true)
    (h : SW P fin n k ops tl l ((d, v) :: f) w) : SW P fin n k ops tl (⟨some d, op, ty, pos, aft, some (j, want)⟩ :: l) f w := by
  intro a ha
  refine wpStill_step fun K hK => ?_
  have hwt : Region.wanted ⟨some d, op, ty, pos, aft, some (j, want)⟩ (yielded ops a.tmps) = true := hG a ha
  rw [hwt, if_pos rfl]
  unfold Oper.still
  rw [hr a ha, Oper.stillUpon_value]
  exact hK _ (h _ (ha.put (blt_lt hd) v))
theorem sw_gds (f1 : Fr) {d : Nat} {pos : String} {aft : Array Edge} {j : Nat} {want c : Bool} {i : FuncId} {args : Array Operand} {ats : Array TypeId} {vs : List Value} {v : Value} (hG : Grd n ops f j want c) (hs : UndF c f1 f)
    (hx : f1.evs args.toList = some vs) (hc' : c = true → Rets P i vs w (fun v' w' => v' = v ∧ w = w')) (hd : Nat.blt d n = true)
    (h : SW P fin n k ops tl l ((d, gv c v) :: f) w) : SW P fin n k ops tl (⟨some d, .call { callee := .value (.func i), args := args, argTypes := ats }, ty, pos, aft, some (j, want)⟩ :: l) f w := by
  intro a ha
  have hg := hG a ha
  refine wpStill_step fun K hK => ?_
  have hwt : Region.wanted ⟨some d, .call { callee := .value (.func i), args := args, argTypes := ats }, ty, pos, aft, some (j, want)⟩ (yielded ops a.tmps) = c := hg
  rw [hwt]
  have h' := h _ (ha.put (blt_lt hd) (gv c v))
  cases hc : c with
  | true =>
    rw [if_pos rfl]
    rw [gv_true hc] at h'
    exact still_call (ha.undF hc hs) hx (hc' hc) (hK _ h')
  | false =>
    rw [if_neg (by simp)]
    rw [gv_false hc] at h'
    exact hK _ h'
theorem sw_pand {x y : Tmp} {d : Nat} {pos : String} {aft : Array Edge} {j : Nat} {want c c2 b b2 : Bool} (hG : Grd n ops f j want c) (hx : Und c f x (.bool b)) (hy : f.get y = some (gv c2 (.bool b2))) (hc2 : c2 = (c && (b == true)))
    (hd : Nat.blt d n = true) (h : SW P fin n k ops tl l ((d, gv c (.bool (b && b2))) :: f) w) : SW P fin n k ops tl (⟨some d, .pick (.tmp x) (.tmp y) (.const (.bool false)), ty, pos, aft, some (j, want)⟩ :: l) f w := by
  cases c with
  | false => exact sw_gg (c := false) (v := .bool (b && b2)) [] hG trivial (fun h => by cases h) hd h
  | true =>
    have hc2' : c2 = (b == true) := by rw [hc2, Bool.true_and]
    obtain ⟨u, hu, hu'⟩ := hx
    have hu2 := hu' rfl
    subst hu2
    exact sw_gy hG (g_pand (x := .tmp x) (y := .tmp y) hu hy hc2') hd h
theorem sw_por {x y : Tmp} {d : Nat} {pos : String} {aft : Array Edge} {j : Nat} {want c c2 b b2 : Bool} (hG : Grd n ops f j want c) (hx : Und c f x (.bool b)) (hy : f.get y = some (gv c2 (.bool b2))) (hc2 : c2 = (c && (b == false)))
    (hd : Nat.blt d n = true) (h : SW P fin n k ops tl l ((d, gv c (.bool (b || b2))) :: f) w) : SW P fin n k ops tl (⟨some d, .pick (.tmp x) (.const (.bool true)) (.tmp y), ty, pos, aft, some (j, want)⟩ :: l) f w := by
  cases c with
  | false => exact sw_gg (c := false) (v := .bool (b || b2)) [] hG trivial (fun h => by cases h) hd h
  | true =>
    have hc2' : c2 = (b == false) := by rw [hc2, Bool.true_and]
    obtain ⟨u, hu, hu'⟩ := hx
    have hu2 := hu' rfl
    subst hu2
    exact sw_gy hG (g_por (x := .tmp x) (y := .tmp y) hu hy hc2') hd h
end
end Go.Eng
