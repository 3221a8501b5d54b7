/- The walking engine, part 12: the laws of planned walks. Nothing here names a program. -/
import Derived.Test.YtkngeapegpehpaaEngK
namespace Go.Eng
open Go Go.IntWalk
section
variable {P : Program} {n : Nat} {f : Fr} {w : World} {ty : TypeId} {fin : Exit → Act → World → Prop} {k : List KI} {l : List Oper} {p : Nat} {T cs r : List Nat} {Fin : Fr → World → Prop} {i : Nat}
theorem arr_pls (m se : Nat) : ∀ (i : Nat) (x : Nat × Nat), ((List.range m).map fun i => (i * se, se))[i]? = some x → some (i * se, se) = some x := by
  intro i x h
  rw [List.getElem?_map] at h
  rcases Nat.lt_or_ge i m with hi | hi
  · rw [List.getElem?_range hi] at h; simpa using h
  · rw [List.getElem?_eq_none (by simpa using hi)] at h; cases h
/-- A call that runs here and now. -/
theorem g_callv {j : FuncId} {args : Array Operand} {ats : Array TypeId} {vs : List Value} {v : Value} (hx : f.evs args.toList = some vs) (hc : ∀ w, (callFunc j vs.toArray).run P w = .ok (.value v) w) :
    Gives P n f w (.call { callee := .value (.func j), args := args, argTypes := ats }) ty v w := by
  intro a ha dst pos aft g
  have hm : args.map a.eval = vs.toArray := by rw [← Array.toList_inj]; simp [ha.evs hx]
  simp [execOp, resolve, Deferred.ofValue, Act.eval, invoke, hm, hc]
abbrev PWc (P : Program) (n : Nat) (l : List Oper) (p : Nat) (T cs : List Nat) (Fin : Fr → World → Prop) (pl : List Nat) (f : Fr) (w : World) : Prop := PW P n l p T (fun i => cs.contains i) Fin pl f w
theorem dstOf_at {d : Nat} {op : Op} {pos : String} {aft : Array Edge} {g : Option (Nat × Bool)} (ho : l[i]? = some ⟨some d, op, ty, pos, aft, g⟩) : dstOf l i = d := by unfold dstOf; rw [ho]; rfl
theorem pw_nil (h : OW P fin n k l.toArray (l.drop p) f w) : PW P n l p T (fun i => cs.contains i) (fun f' w' => OW P fin n k l.toArray (l.drop p) f' w') [] f w := by unfold PW; exact h
theorem pstep_g {f1 : Fr} {ops : Array Oper} {d : Nat} {op : Op} {pos : String} {aft : Array Edge} {v : Value} (hr : Gives P n f1 w op ty v w) : PStep P n ops ⟨some d, op, ty, pos, aft, none⟩ f1 w (fun v' w'' => v' = v ∧ w'' = w) := by
  intro a ha K Q hK
  refine ⟨fun _ => ?_, fun h => by simp [Region.wanted] at h⟩
  unfold Oper.wp
  rw [hr a ha]
  exact hK _ _ ⟨rfl, rfl⟩
theorem pw_g (f1 : Fr) {op : Op} {d : Nat} {pos : String} {aft : Array Edge} {v : Value} (ho : l[i]? = some ⟨some d, op, ty, pos, aft, none⟩) (hc : cs.contains i = false) (hs : Fr.sub f1 f) (hk : slotsOk l p i f1 = true)
    (hr : ∀ w', Keep T w w' → Gives P n f1 w' op ty v w') (h : PW P n l p T (fun i => cs.contains i) Fin r ((d, v) :: f) w) : PW P n l p T (fun i => cs.contains i) Fin (i :: r) f w := by
  unfold PW
  exact ⟨_, f1, ho, hs, hk, .inr ⟨hc, v, fun w' hw => pstep_g (hr w' hw), by rw [dstOf_at ho]; exact h⟩⟩
theorem pw_gx (f1 : Fr) {op : Op} {d : Nat} {pos : String} {aft : Array Edge} {kd : IntKind} {e e' lo hi : Int} (ho : l[i]? = some ⟨some d, op, ty, pos, aft, none⟩) (hc : cs.contains i = false) (hs : Fr.sub f1 f) (hk : slotsOk l p i f1 = true)
    (hr : ∀ w', Keep T w w' → Gives P n f1 w' op ty (.int kd e) w') (he : e = e') (hb : In e' lo hi) (h : ∀ z, Eqn z e' → In z lo hi → PW P n l p T (fun i => cs.contains i) Fin r ((d, .int kd z) :: f) w) : PW P n l p T (fun i => cs.contains i) Fin (i :: r) f w := by
  subst he; exact pw_g f1 ho hc hs hk hr (h _ rfl hb)
theorem pw_gz (f1 : Fr) {op : Op} {d : Nat} {pos : String} {aft : Array Edge} {kd : IntKind} {e e' : Int} (ho : l[i]? = some ⟨some d, op, ty, pos, aft, none⟩) (hc : cs.contains i = false) (hs : Fr.sub f1 f) (hk : slotsOk l p i f1 = true)
    (hr : ∀ w', Keep T w w' → Gives P n f1 w' op ty (.int kd e) w') (he : e = e') (h : ∀ z, Eqn z e' → PW P n l p T (fun i => cs.contains i) Fin r ((d, .int kd z) :: f) w) : PW P n l p T (fun i => cs.contains i) Fin (i :: r) f w := by
  subst he; exact pw_g f1 ho hc hs hk hr (h _ rfl)
theorem pw_d (f1 : Fr) {op : Op} {d : Nat} {pos : String} {aft : Array Edge} {R : Value → World → Prop} (ho : l[i]? = some ⟨some d, op, ty, pos, aft, none⟩) (hc : cs.contains i = true) (hs : Fr.sub f1 f) (hk : slotsOk l p i f1 = true)
    (hr : Does P n f1 w op ty R) (h : ∀ v w', R v w' → Keep T w w' ∧ PW P n l p T (fun i => cs.contains i) Fin r ((d, v) :: f) w') : PW P n l p T (fun i => cs.contains i) Fin (i :: r) f w := by
  unfold PW
  refine ⟨_, f1, ho, hs, hk, .inl ⟨hc, fun a ha K Q hK => ⟨fun _ => ?_, fun h => by simp [Region.wanted] at h⟩⟩⟩
  exact hr a ha _ _ _ _ _ _ (fun v w' hv => hK _ _ (by rw [dstOf_at ho]; exact h v w' hv))
/-- Guards: the slot of what is waited for stands in f1. -/
theorem pw_grp (d : Nat) (want : Bool) {b : Bool} (_hf : f.get d = some (.bool b)) {pl : List Nat} (h : ∀ c, c = (b == want) → PW P n l p T (fun i => cs.contains i) Fin pl f w) : PW P n l p T (fun i => cs.contains i) Fin pl f w := h _ rfl
theorem pw_grp2 (d : Nat) (want : Bool) {b c' : Bool} (_hf : f.get d = some (gv c' (.bool b))) {pl : List Nat} (h : ∀ c, c = (c' && (b == want)) → PW P n l p T (fun i => cs.contains i) Fin pl f w) : PW P n l p T (fun i => cs.contains i) Fin pl f w := h _ rfl
theorem pw_gg (f1 f2 : Fr) {op : Op} {d : Nat} {pos : String} {aft : Array Edge} {j : Nat} {want c : Bool} {v : Value} (ho : l[i]? = some ⟨some d, op, ty, pos, aft, some (j, want)⟩) (hc : cs.contains i = false) (hs : Fr.sub f1 f) (hk : slotsOk l p i f1 = true)
    (hG : Grd n l.toArray f1 j want c) (hu : UndF c f2 f1) (hr : c = true → ∀ w', Keep T w w' → Gives P n f2 w' op ty v w') (h : PW P n l p T (fun i => cs.contains i) Fin r ((d, gv c v) :: f) w) : PW P n l p T (fun i => cs.contains i) Fin (i :: r) f w := by
  unfold PW
  refine ⟨_, f1, ho, hs, hk, .inr ⟨hc, gv c v, fun w' hw a ha K Q hK => ?_, by rw [dstOf_at ho]; exact h⟩⟩
  have hg := hG a ha
  have hwt : Region.wanted ⟨some d, op, ty, pos, aft, some (j, want)⟩ (yielded l.toArray a.tmps) = c := hg
  rw [hwt]
  refine ⟨fun hct => ?_, fun hcf => ?_⟩
  · unfold Oper.wp
    rw [hr hct w' hw a (ha.undF hct hu)]
    exact hK _ _ ⟨(gv_true hct).symm, rfl⟩
  · exact hK _ _ ⟨(gv_false hcf).symm, rfl⟩
theorem pw_gd (f1 f2 : Fr) {op : Op} {d : Nat} {pos : String} {aft : Array Edge} {j : Nat} {want c : Bool} {R : Value → World → Prop} (ho : l[i]? = some ⟨some d, op, ty, pos, aft, some (j, want)⟩) (hc : cs.contains i = true) (hs : Fr.sub f1 f) (hk : slotsOk l p i f1 = true)
    (hG : Grd n l.toArray f1 j want c) (hu : UndF c f2 f1) (hr : c = true → Does P n f2 w op ty R) (h : ∀ v w', (c = true → R v w') → (c = false → w' = w) → Keep T w w' ∧ PW P n l p T (fun i => cs.contains i) Fin r ((d, gv c v) :: f) w') : PW P n l p T (fun i => cs.contains i) Fin (i :: r) f w := by
  unfold PW
  refine ⟨_, f1, ho, hs, hk, .inl ⟨hc, fun a ha K Q hK => ?_⟩⟩
  have hg := hG a ha
  have hwt : Region.wanted ⟨some d, op, ty, pos, aft, some (j, want)⟩ (yielded l.toArray a.tmps) = c := hg
  rw [hwt]
  refine ⟨fun hct => ?_, fun hcf => ?_⟩
  · refine hr hct a (ha.undF hct hu) _ _ _ _ _ _ (fun v w' hv => hK _ _ ?_)
    have := h v w' (fun _ => hv) (fun h => by rw [hct] at h; cases h)
    rw [gv_true hct] at this
    rw [dstOf_at ho]; exact this
  · have := h undef w (fun h => by rw [hcf] at h; cases h) (fun _ => rfl)
    rw [gv_false hcf] at this
    refine hK _ _ ?_
    rw [dstOf_at ho]; exact this
end
end Go.Eng
