/- The walking engine, part 14: the laws of planned walks with variables made besides. Nothing here names a program. -/
import Derived.Test.YtkngeapegpehpaaEngM
namespace Go.Eng
open Go Go.IntWalk
section
variable {P : Program} {n : Nat} {f : Fr} {w : World} {ty : TypeId} {fin : Exit → Act → World → Prop} {k : List KI} {l : List Oper} {p s0 : Nat} {T cs r : List Nat} {Fin : Fr → World → Prop} {i : Nat}
theorem pa_nil {fl : List (Nat × TypeId × List Value)} (h : ∀ w2, Keep [] w w2 → FinA P fin n k l p s0 cs f fl [] f w2) : PA P n l p T s0 (fun i => cs.contains i) (fun f' w' => ∀ w2, Keep [] w' w2 → FinA P fin n k l p s0 cs f' fl [] f' w2) [] f w := by unfold PA; exact h
theorem fina_nil {fc : Fr} {seen : List Nat} (h : OW P fin n k l.toArray (l.drop p) f w) : FinA P fin n k l p s0 cs fc [] seen f w := h
theorem frPut_at {d : Nat} {op : Op} {pos : String} {aft : Array Edge} {g : Option (Nat × Bool)} {v : Value} {f : Fr} (ho : l[i]? = some ⟨some d, op, ty, pos, aft, g⟩) : frPut l i v f = (d, v) :: f := by
  unfold frPut hasDst; rw [ho, dstOf_at ho]; rfl
theorem pa_g (f1 : Fr) {op : Op} {d : Nat} {pos : String} {aft : Array Edge} {v : Value} (ho : l[i]? = some ⟨some d, op, ty, pos, aft, none⟩) (hc : cs.contains i = false) (hs : Fr.sub f1 f) (hk : slotsOk l p i f1 = true)
    (hr : ∀ w', Keep T w w' → Gives P n f1 w' op ty v w') (h : PA P n l p T s0 (fun i => cs.contains i) Fin r ((d, v) :: f) w) : PA P n l p T s0 (fun i => cs.contains i) Fin (i :: r) f w := by
  unfold PA
  exact ⟨_, f1, ho, hs, hk, .inr ⟨hc, v, fun w' hw => pstep_g (hr w' hw), by rw [frPut_at ho]; exact h⟩⟩
theorem pa_gx (f1 : Fr) {op : Op} {d : Nat} {pos : String} {aft : Array Edge} {kd : IntKind} {e e' lo hi : Int} (ho : l[i]? = some ⟨some d, op, ty, pos, aft, none⟩) (hc : cs.contains i = false) (hs : Fr.sub f1 f) (hk : slotsOk l p i f1 = true)
    (hr : ∀ w', Keep T w w' → Gives P n f1 w' op ty (.int kd e) w') (he : e = e') (hb : In e' lo hi) (h : ∀ z, Eqn z e' → In z lo hi → PA P n l p T s0 (fun i => cs.contains i) Fin r ((d, .int kd z) :: f) w) : PA P n l p T s0 (fun i => cs.contains i) Fin (i :: r) f w := by
  subst he; exact pa_g f1 ho hc hs hk hr (h _ rfl hb)
theorem pa_gz (f1 : Fr) {op : Op} {d : Nat} {pos : String} {aft : Array Edge} {kd : IntKind} {e e' : Int} (ho : l[i]? = some ⟨some d, op, ty, pos, aft, none⟩) (hc : cs.contains i = false) (hs : Fr.sub f1 f) (hk : slotsOk l p i f1 = true)
    (hr : ∀ w', Keep T w w' → Gives P n f1 w' op ty (.int kd e) w') (he : e = e') (h : ∀ z, Eqn z e' → PA P n l p T s0 (fun i => cs.contains i) Fin r ((d, .int kd z) :: f) w) : PA P n l p T s0 (fun i => cs.contains i) Fin (i :: r) f w := by
  subst he; exact pa_g f1 ho hc hs hk hr (h _ rfl)
theorem pa_d (f1 : Fr) {op : Op} {d : Nat} {pos : String} {aft : Array Edge} (ho : l[i]? = some ⟨some d, op, ty, pos, aft, none⟩) (hc : cs.contains i = true) (hs : Fr.sub f1 f) (hk : slotsOk l p i f1 = true)
    (hr : ∀ w1, Keep [] w w1 → Does P n f1 w1 op ty (fun v w' => Keep T w1 w' ∧ (∀ x, x ∈ cblk v → (x < s0 ∨ w1.heap.size ≤ x) ∧ x < w'.heap.size) ∧ PA P n l p T s0 (fun i => cs.contains i) Fin r ((d, v) :: f) w')) : PA P n l p T s0 (fun i => cs.contains i) Fin (i :: r) f w := by
  unfold PA
  refine ⟨_, f1, ho, hs, hk, .inl ⟨hc, fun w1 k1 a ha K Q hK => ⟨fun _ => ?_, fun h => by simp [Region.wanted] at h⟩⟩⟩
  exact hr w1 k1 a ha _ _ _ _ _ _ (fun v w' hv => hK _ _ ⟨hv.1, hv.2.1, by rw [frPut_at ho]; exact hv.2.2⟩)
/-- An operation that writes no slot. -/
theorem pa_d0 (f1 : Fr) {op : Op} {pos : String} {aft : Array Edge} (ho : l[i]? = some ⟨none, op, ty, pos, aft, none⟩) (hc : cs.contains i = true) (hs : Fr.sub f1 f) (hk : slotsOk l p i f1 = true)
    (hr : ∀ w1, Keep [] w w1 → Does P n f1 w1 op ty (fun v w' => Keep T w1 w' ∧ PA P n l p T s0 (fun i => cs.contains i) Fin r f w')) : PA P n l p T s0 (fun i => cs.contains i) Fin (i :: r) f w := by
  unfold PA
  refine ⟨_, f1, ho, hs, hk, .inl ⟨hc, fun w1 k1 a ha K Q hK => ⟨fun _ => ?_, fun h => by simp [Region.wanted] at h⟩⟩⟩
  refine hr w1 k1 a ha none pos aft none K Q (fun v w' hv => ?_)
  have e : frPut l i undef f = f := by unfold frPut hasDst; rw [ho]; rfl
  exact hK undef w' ⟨hv.1, (fun x hx => by cases hx), (by rw [e]; exact hv.2)⟩
/-- Guards: the slot of what is waited for stands in f1. -/
theorem pa_grp (d : Nat) (want : Bool) {b : Bool} (_hf : f.get d = some (.bool b)) {pl : List Nat} (h : ∀ c, c = (b == want) → PA P n l p T s0 (fun i => cs.contains i) Fin pl f w) : PA P n l p T s0 (fun i => cs.contains i) Fin pl f w := h _ rfl
theorem pa_grp2 (d : Nat) (want : Bool) {b c' : Bool} (_hf : f.get d = some (gv c' (.bool b))) {pl : List Nat} (h : ∀ c, c = (c' && (b == want)) → PA P n l p T s0 (fun i => cs.contains i) Fin pl f w) : PA P n l p T s0 (fun i => cs.contains i) Fin pl f w := h _ rfl
theorem pa_gg (f1 f2 : Fr) {op : Op} {d : Nat} {pos : String} {aft : Array Edge} {j : Nat} {want c : Bool} {v : Value} (ho : l[i]? = some ⟨some d, op, ty, pos, aft, some (j, want)⟩) (hc : cs.contains i = false) (hs : Fr.sub f1 f) (hk : slotsOk l p i f1 = true)
    (hG : Grd n l.toArray f1 j want c) (hu : UndF c f2 f1) (hr : c = true → ∀ w', Keep T w w' → Gives P n f2 w' op ty v w') (h : PA P n l p T s0 (fun i => cs.contains i) Fin r ((d, gv c v) :: f) w) : PA P n l p T s0 (fun i => cs.contains i) Fin (i :: r) f w := by
  unfold PA
  refine ⟨_, f1, ho, hs, hk, .inr ⟨hc, gv c v, fun w' hw a ha K Q hK => ?_, by rw [frPut_at ho]; exact h⟩⟩
  have hg := hG a ha
  have hwt : Region.wanted ⟨some d, op, ty, pos, aft, some (j, want)⟩ (yielded l.toArray a.tmps) = c := hg
  rw [hwt]
  refine ⟨fun hct => ?_, fun hcf => ?_⟩
  · unfold Oper.wp
    rw [hr hct w' hw a (ha.undF hct hu)]
    exact hK _ _ ⟨(gv_true hct).symm, rfl⟩
  · exact hK _ _ ⟨(gv_false hcf).symm, rfl⟩
end
end Go.Eng
