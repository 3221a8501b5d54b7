/- The walking engine, part 13: planned walks of regions in which variables are made besides, at whatever time. Nothing here names a program. -/
import Derived.Test.YtkngeapegpehpaaEngL
namespace Go.Eng
open Go Go.IntWalk
/-- The blocks that a value points to. -/
def cblk : Value → List Nat
  | .tuple vs => vs.toList.flatMap fun u => u.cells.toList.flatMap vblk
  | v => v.cells.toList.flatMap vblk
section
variable {P : Program} {n : Nat}
/-- From number p on each operation waits for the one before it; number p waits, at some remove, for all before it. -/
def tailOk2 (l : List Oper) (p : Nat) : Bool := Nat.ble p l.length && ((List.range l.length).all fun i => !(Nat.blt p i) || depB l i (i - 1)) && (Nat.ble l.length p || (List.range p).all fun j => (List.range (p + 1)).any fun m => Nat.blt j m && depB l m j)
theorem dep_edge {l : List Oper} {i j : Nat} (h : depB l i j = true) : ∃ o, l[i]? = some o ∧ ∃ e ∈ o.after, e.on = j ∧ Region.binds .any e = true := by
  unfold depB at h
  cases ho : l[i]? with
  | none => rw [ho] at h; cases h
  | some o =>
    rw [ho] at h
    obtain ⟨e, he, h3⟩ := List.any_eq_true.1 h
    simp only [Bool.and_eq_true, beq_iff_eq] at h3
    exact ⟨o, rfl, e, Array.mem_toList_iff.1 he, h3.1, h3.2⟩
theorem tail2_next {l : List Oper} {p i : Nat} (h : tailOk2 l p = true) (hi : i < l.length) (hp : p < i) : depB l i (i - 1) = true := by
  simp only [tailOk2, Bool.and_eq_true] at h
  have h1 := List.all_eq_true.1 h.1.2 i (List.mem_range.2 hi)
  have hn : Nat.blt p i = true := Nat.ble_eq_true_of_le hp
  rw [hn] at h1; simpa using h1
theorem tail2_all {l : List Oper} {p : Nat} {S : Nat → Prop} (h : tailOk2 l p = true) (hp : p < l.length) (hS : ∀ i j, i = p ∨ S i → depB l i j = true → S j) : ∀ d j, j < p → d = p - j → S j := by
  intro d
  induction d using Nat.strongRecOn with
  | ind d ih =>
    intro j hj hd
    simp only [tailOk2, Bool.and_eq_true, Bool.or_eq_true] at h
    rcases h.2 with h1 | h1
    · have := Nat.le_of_ble_eq_true h1; omega
    · obtain ⟨m, hm, h2⟩ := List.any_eq_true.1 (List.all_eq_true.1 h1 j (List.mem_range.2 hj))
      simp only [Bool.and_eq_true] at h2
      have h3 := blt_lt h2.1
      have h4 := List.mem_range.1 hm
      refine hS m j ?_ h2.2
      rcases Nat.lt_or_ge m p with h5 | h5
      · exact .inr (ih (p - m) (by omega) m h5 rfl)
      · exact .inl (by omega)
theorem wpAny_tail2 {l : List Oper} {p0 : Nat} {Q : Exit → Act → World → Prop} (hok : drawOk n l = true) (ht : tailOk2 l p0 = true) : ∀ (d p fuel : Nat) (listed : Array Bool) (a : Act) (w : World), d = l.length - p → p ≤ l.length → p0 ≤ p → d ≤ fuel → listed.size = l.length →
    (∀ i, i < l.length → listed.getD i false = decide (i < p)) → wpList P l.toArray Q (l.drop p) a w → wpAny P .any l.toArray Q fuel listed a w := by
  intro d
  induction d with
  | zero =>
    intro p fuel listed a w hd hp hp0 hf hs hl h
    have hpl : p = l.length := by omega
    subst hpl
    rw [List.drop_length] at h
    have hr : Region.ready .any l.toArray listed = [] := by
      cases hr : Region.ready .any l.toArray listed with
      | nil => rfl
      | cons i r =>
        exfalso
        have hi : i ∈ Region.ready .any l.toArray listed := by rw [hr]; simp
        obtain ⟨h0, o, ho, _⟩ := mem_ready.1 hi
        have hlt : i < l.length := by have := (Array.getElem?_eq_some_iff.1 ho).1; simpa using this
        rw [getD_lists hs hlt true false, hl i hlt] at h0
        simp [hlt] at h0
    cases fuel with
    | zero => exact ⟨hr, h⟩
    | succ f => exact ⟨fun _ => h, fun i hi => by rw [hr] at hi; cases hi⟩
  | succ d ih =>
    intro p fuel listed a w hd hp hp0 hf hs hl h
    have hplt : p < l.length := by omega
    obtain ⟨f, rfl⟩ : ∃ f, fuel = f + 1 := ⟨fuel - 1, by omega⟩
    have hget : l[p]? = some l[p] := List.getElem?_eq_getElem hplt
    have honly : ∀ i, i ∈ Region.ready .any l.toArray listed → i = p := by
      intro i hi
      obtain ⟨h0, o, ho, hedge⟩ := mem_ready.1 hi
      have hlt : i < l.length := by have := (Array.getElem?_eq_some_iff.1 ho).1; simpa using this
      have h1 : ¬ i < p := by
        rw [getD_lists hs hlt true false, hl i hlt] at h0
        simpa using h0
      rcases Nat.lt_or_ge p i with h2 | h2
      · obtain ⟨o', ho', e, he, h3, h4⟩ := dep_edge (tail2_next ht hlt (by omega))
        rw [show l[i]? = some o from by simpa using ho] at ho'
        obtain rfl := Option.some.inj ho'
        have := hedge e he h4
        rw [h3, hl (i - 1) (by omega)] at this
        have := of_decide_eq_true this
        omega
      · omega
    have hmem : p ∈ Region.ready .any l.toArray listed := by
      refine mem_ready.2 ⟨by rw [getD_lists hs hplt true false, hl p hplt]; simp, l[p], by simp [hget], fun e he hb => ?_⟩
      have h1 := List.all_eq_true.1 hok p (List.mem_range.2 hplt)
      simp only [hget, Bool.and_eq_true] at h1
      have h2 := List.all_eq_true.1 h1.1.2 e (Array.mem_toList_iff.2 he)
      rw [hb] at h2
      have h3 : e.on < p := blt_lt (by simpa using h2)
      rw [hl e.on (by omega)]; simpa using h3
    refine ⟨fun hr => (by rw [hr] at hmem; cases hmem), fun i hi => ?_⟩
    have := honly i hi
    subst this
    rw [List.drop_eq_getElem_cons hplt] at h
    unfold wpOp
    rw [show l.toArray[i]? = some l[i] from by simp [hget]]
    simp only
    unfold wpList at h
    have hnext : ∀ a' w', wpList P l.toArray Q (l.drop (i + 1)) a' w' → wpAny P .any l.toArray Q f (listed.setIfInBounds i true) a' w' := by
      intro a' w' h'
      refine ih (i + 1) f _ a' w' (by omega) (by omega) (by omega) (by omega) (by simpa using hs) ?_ h'
      intro j hj
      by_cases hij : i = j
      · subst hij
        rw [Array.getD_eq_getD_getElem?]; simp [hs, hj]
      · rw [getD_set_ne false hij, hl j hj]
        by_cases h1 : j < i
        · simp [h1]; omega
        · simp [h1]; omega
    split at h
    · rename_i hw
      rw [if_pos hw]
      exact h.imp (fun h => Oper.wp_mono (fun a' w' h' => hnext a' w' h') h) id
    · rename_i hw
      rw [if_neg hw]
      exact hnext _ _ h
def dpF (l : List Oper) (vs : Nat → Value) : List Nat → Fr
  | [] => []
  | j :: r => bif hasDst l j then (dstOf l j, vs j) :: dpF l vs r else dpF l vs r
theorem mem_dpF {l : List Oper} {vs : Nat → Value} {q : Nat × Value} : ∀ {deps : List Nat}, q ∈ dpF l vs deps → ∃ j, j ∈ deps ∧ hasDst l j = true ∧ q = (dstOf l j, vs j)
  | [], h => by cases h
  | j :: r, h => by
    unfold dpF at h
    cases hd : hasDst l j with
    | true =>
      rw [hd, cond_true, List.mem_cons] at h
      rcases h with h | h
      · exact ⟨j, by simp, hd, h⟩
      · obtain ⟨i, h1, h2, h3⟩ := mem_dpF h
        exact ⟨i, by simp [h1], h2, h3⟩
    | false =>
      rw [hd, cond_false] at h
      obtain ⟨i, h1, h2, h3⟩ := mem_dpF h
      exact ⟨i, by simp [h1], h2, h3⟩
theorem get_dpF {l : List Oper} {vs : Nat → Value} {f0 : Fr} : ∀ {pre : List Nat} {t : Nat} {u : Value}, (dpF l vs pre ++ f0).get t = some u → (∃ j, j ∈ pre ∧ hasDst l j = true ∧ dstOf l j = t ∧ vs j = u) ∨ f0.get t = some u
  | [], t, u, h => .inr h
  | j :: r, t, u, h => by
    have rest : (dpF l vs r ++ f0).get t = some u → (∃ i, i ∈ j :: r ∧ hasDst l i = true ∧ dstOf l i = t ∧ vs i = u) ∨ f0.get t = some u := by
      intro h
      rcases get_dpF (pre := r) h with ⟨i, hi, h1, h2⟩ | h1
      · exact .inl ⟨i, by simp [hi], h1, h2⟩
      · exact .inr h1
    unfold dpF at h
    cases hd : hasDst l j with
    | false => rw [hd, cond_false] at h; exact rest h
    | true =>
      rw [hd, cond_true] at h
      simp only [List.cons_append, Fr.get] at h
      by_cases e : Nat.beq (dstOf l j) t = true
      · rw [e] at h
        simp only [cond_true, Option.some.injEq] at h
        exact .inl ⟨j, by simp, hd, Nat.eq_of_beq_eq_true e, h⟩
      · have e' : Nat.beq (dstOf l j) t = false := eq_false_of_ne_true e
        rw [e'] at h
        exact rest h
def frPut (l : List Oper) (i : Nat) (v : Value) (f : Fr) : Fr := bif hasDst l i then (dstOf l i, v) :: f else f
theorem dpF_cons {l : List Oper} {vs : Nat → Value} {i : Nat} {r : List Nat} {f0 : Fr} : dpF l vs (i :: r) ++ f0 = frPut l i (vs i) (dpF l vs r ++ f0) := by
  unfold frPut
  simp only [dpF]
  cases hasDst l i <;> rfl
section
variable {l : List Oper} {p : Nat} {T : List Nat} {f0 : Fr}
def LkA (l : List Oper) (f0 : Fr) (pre : List Nat) (vs : Nat → Value) (i : Nat) (f1 : Fr) : Prop :=
  ∀ t u, f1.get t = some u → (∃ j, j ∈ pre ∧ depB l i j = true ∧ hasDst l j = true ∧ dstOf l j = t ∧ vs j = u) ∨ f0.get t = some u
theorem lkA_of {n : Nat} (hok : drawOk n l = true) (hpl : p ≤ l.length) {pre : List Nat} {vs : Nat → Value} {i : Nat} {f1 : Fr} (hpre : ∀ j, j ∈ pre → j < p) (hs : Fr.sub f1 (dpF l vs pre.reverse ++ f0)) (h : slotsOk l p i f1 = true) : LkA l f0 pre vs i f1 := by
  intro t u ht
  rcases get_dpF (sub_get hs t u ht) with ⟨j, hj, h0, h1, h2⟩ | h1
  · have hj' : j ∈ pre := by simpa using hj
    obtain ⟨q, hq, hq'⟩ := get_mem ht
    have h3 := List.all_eq_true.1 h q hq
    simp only [Bool.or_eq_true] at h3
    rcases h3 with h3 | h3
    · have h4 := List.all_eq_true.1 h3 j (List.mem_range.2 (hpre j hj'))
      rw [h0, hq'] at h4
      simp [h1] at h4
    · obtain ⟨j', hj1, h5⟩ := List.any_eq_true.1 h3
      simp only [Bool.and_eq_true, beq_iff_eq] at h5
      have hlt := List.mem_range.1 hj1
      have : j = j' := draw_distinct hok (Nat.lt_of_lt_of_le (hpre j hj') hpl) (Nat.lt_of_lt_of_le hlt hpl) h0 h5.2.1 (by rw [h1, h5.2.2, hq'])
      subst this
      exact .inl ⟨j, hj', h5.1, h0, h1, h2⟩
  · exact .inr h1
def RdOkA (P : Program) (n : Nat) (l : List Oper) (T : List Nat) (f0 : Fr) (pre : List Nat) (vs : Nat → Value) (w : World) (i : Nat) : Prop :=
  ∃ o f1, l[i]? = some o ∧ LkA l f0 pre vs i f1 ∧ ∀ w', Keep T w w' → PStep P n l.toArray o f1 w' (fun v' w'' => v' = vs i ∧ w'' = w')
theorem LkA.mono {pre pre' : List Nat} {vs vs' : Nat → Value} {i : Nat} {f1 : Fr} (h : LkA l f0 pre vs i f1) (hm : ∀ j, j ∈ pre → j ∈ pre' ∧ vs' j = vs j) : LkA l f0 pre' vs' i f1 := by
  intro t u ht
  rcases h t u ht with ⟨j, h1, h2, h3, h4, h5⟩ | h1
  · exact .inl ⟨j, (hm j h1).1, h2, h3, h4, by rw [(hm j h1).2, h5]⟩
  · exact .inr h1
theorem RdOkA.mono {pre pre' : List Nat} {vs vs' : Nat → Value} {w w' : World} {i : Nat} (h : RdOkA P n l T f0 pre vs w i) (hi : i ∈ pre) (hm : ∀ j, j ∈ pre → j ∈ pre' ∧ vs' j = vs j) (hk : Keep T w w') : RdOkA P n l T f0 pre' vs' w' i := by
  obtain ⟨o, f1, h1, h2, h3⟩ := h
  refine ⟨o, f1, h1, h2.mono hm, fun w2 hk2 => ?_⟩
  rw [(hm i hi).2]
  exact h3 w2 (hk.trans hk2)
theorem dpF_setV {vs : Nat → Value} {i : Nat} {v : Value} : ∀ {pre : List Nat}, i ∉ pre → dpF l (setV vs i v) pre = dpF l vs pre
  | [], _ => rfl
  | j :: r, h => by
    simp only [dpF]
    rw [setV_other vs v (fun e => h (by simp [e])), dpF_setV (pre := r) (fun hm => h (by simp [hm]))]
theorem kn_lkA {pre : List Nat} {vs : Nat → Value} {i : Nat} {f1 : Fr} {a : Act} (hk : Kn n f0 a) (hl : LkA l f0 pre vs i f1) (hd : ∀ j, depB l i j = true → j ∈ pre → hasDst l j = true → a.tmps.getD (dstOf l j) undef = vs j) : Kn n f1 a := by
  refine ⟨hk.size, hk.defers, fun t u ht => ?_⟩
  rcases hl t u ht with ⟨j, h1, h2, h3, h4, h5⟩ | h1
  · rw [← h4, ← h5]; exact hd j h2 h1 h3
  · exact hk.get t u h1
end
def planOkA (n : Nat) (l : List Oper) (p : Nat) (plan : List Nat) (cb : Nat → Bool) (fl : List Nat) : Bool :=
  drawOk n l && tailOk2 l p && plan.all (fun i => Nat.blt i p && (hasDst l i || cb i)) && (List.range p).all (fun i => plan.contains i || fl.contains i) && eager l cb plan && fl.all (fun i => Nat.blt i p && !plan.contains i)
def PA (P : Program) (n : Nat) (l : List Oper) (p : Nat) (T : List Nat) (s0 : Nat) (cb : Nat → Bool) (Fin : Fr → World → Prop) : List Nat → Fr → World → Prop
  | [], f, w => Fin f w
  | i :: r, f, w => ∃ o f1, l[i]? = some o ∧ Fr.sub f1 f ∧ slotsOk l p i f1 = true ∧
    ((cb i = true ∧ ∀ w1, Keep [] w w1 → PStep P n l.toArray o f1 w1 (fun v w' => Keep T w1 w' ∧ (∀ x, x ∈ cblk v → (x < s0 ∨ w1.heap.size ≤ x) ∧ x < w'.heap.size) ∧ PA P n l p T s0 cb Fin r (frPut l i v f) w')) ∨
     (cb i = false ∧ ∃ v, (∀ w', Keep T w w' → PStep P n l.toArray o f1 w' (fun v' w'' => v' = v ∧ w'' = w')) ∧ PA P n l p T s0 cb Fin r (frPut l i v f) w))
theorem PA.grow {l : List Oper} {p : Nat} {T : List Nat} {s0 : Nat} {cb : Nat → Bool} {Fin : Fr → World → Prop} (hF : ∀ f w w', Keep [] w w' → Fin f w → Fin f w') : ∀ (pl : List Nat) (f : Fr) (w w' : World), Keep [] w w' → PA P n l p T s0 cb Fin pl f w → PA P n l p T s0 cb Fin pl f w'
  | [], f, w, w', k, h => by unfold PA at *; exact hF _ _ _ k h
  | i :: r, f, w, w', k, h => by
    unfold PA at *
    obtain ⟨o, f1, h1, h2, h3, h4⟩ := h
    refine ⟨o, f1, h1, h2, h3, ?_⟩
    rcases h4 with ⟨hc, h4⟩ | ⟨hc, v, h5, h6⟩
    · exact .inl ⟨hc, fun w1 k1 => h4 w1 (k.trans k1)⟩
    · exact .inr ⟨hc, v, fun w1 k1 => h5 w1 (k.weak.trans k1), PA.grow hF r _ w w' k h6⟩
section
variable {l : List Oper} {p : Nat} {T : List Nat} {s0 : Nat} {cb : Nat → Bool} {Fin : Fr → World → Prop} {f0 : Fr}
theorem absorbA {n : Nat} (hok : drawOk n l = true) (hpl : p ≤ l.length) : ∀ (rest pre : List Nat) (vs : Nat → Value) (w : World), eager l cb (pre ++ rest) = true → (∀ j, j ∈ pre ++ rest → j < p ∧ (hasDst l j = true ∨ cb j = true)) → PA P n l p T s0 cb Fin rest (dpF l vs pre.reverse ++ f0) w →
    (∀ i, i ∈ pre → cb i = false → RdOkA P n l T f0 pre vs w i) → ∃ pre' rest' vs', pre ++ rest = pre' ++ rest' ∧ (∀ i, i ∈ pre → i ∈ pre' ∧ vs' i = vs i) ∧ (∀ i, i ∈ pre' → i ∈ pre ∨ cb i = false) ∧ (∀ c r, rest' = c :: r → cb c = true) ∧
      PA P n l p T s0 cb Fin rest' (dpF l vs' pre'.reverse ++ f0) w ∧ ∀ i, i ∈ pre' → cb i = false → RdOkA P n l T f0 pre' vs' w i
  | [], pre, vs, w, _, _, h, hr => ⟨pre, [], vs, rfl, fun i hi => ⟨hi, rfl⟩, fun i hi => .inl hi, (fun c r h => by cases h), h, hr⟩
  | i :: r, pre, vs, w, he, hb, h, hr => by
    have h0 := h
    unfold PA at h
    obtain ⟨o, f1, h1, h2, h3, h4⟩ := h
    rcases h4 with ⟨hc, _⟩ | ⟨hc, v, h5, h6⟩
    · exact ⟨pre, i :: r, vs, rfl, fun i hi => ⟨hi, rfl⟩, fun i hi => .inl hi, (fun c r h => by cases h; exact hc), h0, hr⟩
    · have hni : i ∉ pre := fun hm => (eager_split he).2 i hm (by simp)
      have hlk := lkA_of (f0 := f0) hok hpl (fun j hj => (hb j (by simp [hj])).1) h2 h3
      have hm : ∀ j, j ∈ pre → j ∈ pre ++ [i] ∧ setV vs i v j = vs j := fun j hj => ⟨by simp [hj], setV_other vs v (fun e => hni (e ▸ hj))⟩
      have hnr : i ∉ pre.reverse := by simpa using hni
      obtain ⟨pre', rest', vs', k1, k2, k3, k4, k5, k6⟩ := absorbA hok hpl r (pre ++ [i]) (setV vs i v) w (by simpa using he) (by simpa using hb)
        (by rw [List.reverse_append, List.reverse_singleton, List.singleton_append, dpF_cons, setV_same, dpF_setV hnr]; exact h6)
        (fun j hj hcj => by
          rcases List.mem_append.1 hj with h | h
          · exact (hr j h hcj).mono h hm (Keep.refl _ _)
          · rw [List.mem_singleton] at h
            subst h
            refine ⟨o, f1, h1, hlk.mono hm, fun w2 hk2 => ?_⟩
            rw [setV_same]; exact h5 w2 hk2)
      refine ⟨pre', rest', vs', by simpa using k1, fun j hj => ?_, fun j hj => ?_, k4, k5, k6⟩
      · obtain ⟨q1, q2⟩ := k2 j (hm j hj).1
        exact ⟨q1, q2.trans (hm j hj).2⟩
      · rcases k3 j hj with h | h
        · rcases List.mem_append.1 h with h | h
          · exact .inl h
          · rw [List.mem_singleton] at h; subst h; exact .inr hc
        · exact .inr h
end
variable {fin : Exit → Act → World → Prop} {k : List KI} {f : Fr} {w : World}
/-- Behind the plan: the variables that were made besides, each in a block of its own. -/
def FinA (P : Program) (fin : Exit → Act → World → Prop) (n : Nat) (k : List KI) (l : List Oper) (p s0 : Nat) (cs : List Nat) (fc : Fr) : List (Nat × TypeId × List Value) → List Nat → Fr → World → Prop
  | [], _, f, w => OW P fin n k l.toArray (l.drop p) f w
  | q :: r, seen, f, w => ∀ b, s0 ≤ b → b < w.heap.size → Bk w b q.2.1 q.2.2 → (∀ x, x ∈ seen → x ≠ b) → (∀ j, j ∈ cs → hasDst l j = true → ∀ v, fc.get (dstOf l j) = some v → ∀ x, x ∈ cblk v → x ≠ b) →
    FinA P fin n k l p s0 cs fc r (b :: seen) ((dstOf l q.1, .pointer (some ⟨b, 0, none⟩)) :: f) w
def flFr (l : List Oper) (bs : Nat → Nat) : List (Nat × TypeId × List Value) → Fr → Fr
  | [], f => f
  | q :: r, f => flFr l bs r ((dstOf l q.1, .pointer (some ⟨bs q.1, 0, none⟩)) :: f)
def seenOf (bs : Nat → Nat) : List (Nat × TypeId × List Value) → List Nat → List Nat
  | [], s => s
  | q :: r, s => seenOf bs r (bs q.1 :: s)
theorem FinA.use {l : List Oper} {p s0 : Nat} {cs : List Nat} {fc : Fr} {bs : Nat → Nat} : ∀ {fl : List (Nat × TypeId × List Value)} {seen : List Nat} {f : Fr} {w : World}, FinA P fin n k l p s0 cs fc fl seen f w →
    (∀ q, q ∈ fl → s0 ≤ bs q.1 ∧ bs q.1 < w.heap.size ∧ Bk w (bs q.1) q.2.1 q.2.2 ∧ (∀ j, j ∈ cs → hasDst l j = true → ∀ v, fc.get (dstOf l j) = some v → ∀ x, x ∈ cblk v → x ≠ bs q.1) ∧ (∀ x, x ∈ seen → x ≠ bs q.1)) →
    (fl.map (·.1)).Nodup → (∀ q q', q ∈ fl → q' ∈ fl → q.1 ≠ q'.1 → bs q.1 ≠ bs q'.1) → OW P fin n k l.toArray (l.drop p) (flFr l bs fl f) w
  | [], seen, f, w, h, _, _, _ => h
  | q :: r, seen, f, w, h, hq, hnd, hd => by
    obtain ⟨h1, h2, h3, h4, h5⟩ := hq q (by simp)
    have hnd' := List.nodup_cons.1 hnd
    refine FinA.use (fl := r) (f := (dstOf l q.1, .pointer (some ⟨bs q.1, 0, none⟩)) :: f) (h (bs q.1) h1 h2 h3 h5 h4) (fun q' hq' => ?_) hnd'.2 (fun a b ha hb => hd a b (by simp [ha]) (by simp [hb]))
    obtain ⟨g1, g2, g3, g4, g5⟩ := hq q' (by simp [hq'])
    refine ⟨g1, g2, g3, g4, fun x hx => ?_⟩
    rcases List.mem_cons.1 hx with rfl | hx
    · exact hd q q' (by simp) (by simp [hq']) (fun e => hnd'.1 (List.mem_map.2 ⟨q', hq', e.symm⟩))
    · exact g5 x hx
theorem nd_eq {q q' : Nat × TypeId × List Value} : ∀ {fl : List (Nat × TypeId × List Value)}, (fl.map (·.1)).Nodup → q ∈ fl → q' ∈ fl → q.1 = q'.1 → q' = q
  | [], _, h, _, _ => by cases h
  | a :: r, hn, h1, h2, he => by
    have hn' := List.nodup_cons.1 hn
    rcases List.mem_cons.1 h1 with e1 | h1 <;> rcases List.mem_cons.1 h2 with e2 | h2
    · rw [e1, e2]
    · exact absurd (List.mem_map.2 ⟨q', h2, by rw [← he, e1]⟩) hn'.1
    · exact absurd (List.mem_map.2 ⟨q, h1, by rw [he, e2]⟩) hn'.1
    · exact nd_eq hn'.2 h1 h2 he
theorem kn_flFr {l : List Oper} {bs : Nat → Nat} {a : Act} : ∀ {fl : List (Nat × TypeId × List Value)} {f : Fr}, Kn n f a → (∀ q, q ∈ fl → a.tmps.getD (dstOf l q.1) undef = .pointer (some ⟨bs q.1, 0, none⟩)) → Kn n (flFr l bs fl f) a
  | [], f, h, _ => h
  | q :: r, f, h, hq => by
    refine kn_flFr (fl := r) ?_ (fun q' hq' => hq q' (by simp [hq']))
    have := Kn.app (n := n) (g := [(dstOf l q.1, .pointer (some ⟨bs q.1, 0, none⟩))]) (f := f) (a := a) (fun p hp => by
      rw [List.mem_singleton] at hp; subst hp; exact hq q (by simp)) h
    exact this
def FlOk (P : Program) (l : List Oper) (q : Nat × TypeId × List Value) : Prop := ∃ d ty pos aft s by_, l[q.1]? = some ⟨some d, .alloc q.2.1, ty, pos, aft, none⟩ ∧ Ty P q.2.1 q.2.2 s by_
def setB (bs : Nat → Nat) (i b : Nat) : Nat → Nat := fun j => bif Nat.beq j i then b else bs j
theorem setB_same (bs : Nat → Nat) (i b : Nat) : setB bs i b i = b := by simp [setB]
theorem setB_other (bs : Nat → Nat) {i j : Nat} (b : Nat) (h : j ≠ i) : setB bs i b j = bs j := by
  unfold setB
  cases hb : Nat.beq j i with
  | false => rfl
  | true => exact absurd (Nat.eq_of_beq_eq_true hb) h
theorem tw_planA {id : Nat} {l : List Oper} (p : Nat) (plan : List Nat) (cs : List Nat) (T : List Nat) (fl : List (Nat × TypeId × List Value)) (hm : P.follows .mixedOrders = true) (f0 : Fr) (hf : Fr.sub f0 f) (hok : planOkA n l p plan (fun i => cs.contains i) (fl.map (·.1)) = true) (hnd : (fl.map (·.1)).Nodup) (hcs : cs.all (fun i => plan.contains i) = true) (hfl : ∀ q, q ∈ fl → FlOk P l q) (hT : ∀ x, x ∈ T → x < w.heap.size) (hfree0 : freeOk (l.take p) f0 = true)
    (h : ∀ w1, Keep [] w w1 → PA P n l p T w.heap.size (fun i => cs.contains i) (fun f' w' => ∀ w2, Keep [] w' w2 → FinA P fin n k l p w.heap.size cs f' fl [] f' w2) plan f0 w1) :
    TW P fin n (.c (.region id l.toArray true) :: k) f w := by
  intro a ha
  simp only [KQ]
  have ha0 := ha.sub hf
  simp only [planOkA, Bool.and_eq_true] at hok
  obtain ⟨⟨⟨⟨⟨hdr, ht⟩, hall⟩, hcov⟩, heag⟩, hfla⟩ := hok
  have hfl1 : ∀ q, q ∈ fl → q.1 < p ∧ q.1 ∉ plan := by
    intro q hq
    have := List.all_eq_true.1 hfla q.1 (List.mem_map.2 ⟨q, hq, rfl⟩)
    simp only [Bool.and_eq_true, Bool.not_eq_true'] at this
    exact ⟨blt_lt this.1, by simpa using this.2⟩
  have hcsp : ∀ j, j ∈ cs → j ∈ plan := by
    intro j hj
    have := List.all_eq_true.1 hcs j hj
    simpa using this
  have hpl : p ≤ l.length := by simp only [tailOk2, Bool.and_eq_true] at ht; exact Nat.le_of_ble_eq_true ht.1.1
  have hplan : ∀ j, j ∈ plan → j < p ∧ (hasDst l j = true ∨ cs.contains j = true) := by
    intro j hj
    have := List.all_eq_true.1 hall j hj
    simp only [Bool.and_eq_true, Bool.or_eq_true] at this
    exact ⟨blt_lt this.1, this.2⟩
  have hmem : ∀ j, j < p → j ∈ plan ∨ ∃ q, q ∈ fl ∧ q.1 = j := by
    intro j hj
    have := List.all_eq_true.1 hcov j (List.mem_range.2 hj)
    simp only [Bool.or_eq_true, List.contains_iff_mem, List.mem_map] at this
    exact this
  have hgrow : ∀ f' w1 w2, Keep [] w1 w2 → (∀ w3, Keep [] w1 w3 → FinA P fin n k l p w.heap.size cs f' fl [] f' w3) → (∀ w3, Keep [] w2 w3 → FinA P fin n k l p w.heap.size cs f' fl [] f' w3) := fun f' w1 w2 k1 h w3 k3 => h w3 (k1.trans k3)
  have hfree : ∀ i, i < p → hasDst l i = true → f0.get (dstOf l i) = none := by
    intro i hi hd
    have e1 : dstOf (l.take p) i = dstOf l i := by unfold dstOf; rw [List.getElem?_take, if_pos hi]
    have e2 : hasDst (l.take p) i = hasDst l i := by unfold hasDst; rw [List.getElem?_take, if_pos hi]
    rw [← e1]
    exact get_none_of_free (l := l.take p) (by rw [List.length_take]; omega) (by rw [e2]; exact hd) hfree0
  have hend : ∀ (listed : Array Bool) (a : Act) (w' : World), Kn n f0 a → (∀ i, i < p → listed.getD i false = true) → w.heap.size ≤ w'.heap.size →
      (∃ pre rest vs, ∃ bs : Nat → Nat, plan = pre ++ rest ∧ (∀ c r, rest = c :: r → cs.contains c = true) ∧ PA P n l p T w.heap.size (fun i => cs.contains i) (fun f' w' => ∀ w2, Keep [] w' w2 → FinA P fin n k l p w.heap.size cs f' fl [] f' w2) rest (dpF l vs pre.reverse ++ f0) w' ∧
        (∀ i, i ∈ pre → cs.contains i = false → RdOkA P n l T f0 pre vs w' i) ∧ (∀ i, i ∈ pre → cs.contains i = true → listed.getD i false = true) ∧ (∀ i, listed.getD i false = true → (∃ q, q ∈ fl ∧ q.1 = i) ∨ i ∈ pre ∧ (hasDst l i = true → a.tmps.getD (dstOf l i) undef = vs i)) ∧
        (∀ q, q ∈ fl → listed.getD q.1 false = true → a.tmps.getD (dstOf l q.1) undef = .pointer (some ⟨bs q.1, 0, none⟩) ∧ w.heap.size ≤ bs q.1 ∧ bs q.1 < w'.heap.size ∧ Bk w' (bs q.1) q.2.1 q.2.2 ∧ ∀ j, j ∈ pre → cs.contains j = true → ∀ x, x ∈ cblk (vs j) → x ≠ bs q.1) ∧
        (∀ j, j ∈ pre → cs.contains j = true → ∀ x, x ∈ cblk (vs j) → x < w'.heap.size) ∧
        (∀ q q', q ∈ fl → q' ∈ fl → listed.getD q.1 false = true → listed.getD q'.1 false = true → q.1 ≠ q'.1 → bs q.1 ≠ bs q'.1)) →
      wpList P l.toArray (KQ P fin k) (l.drop p) a w' := by
    intro listed a w' hk hlist hsz hst
    obtain ⟨pre, rest, vs, bs, h1, h2, h3, h4, h5, h6, h7, h8, h9⟩ := hst
    have hnf : ∀ c, c ∈ plan → ¬ ∃ q, q ∈ fl ∧ q.1 = c := fun c hc ⟨q, hq, he⟩ => (hfl1 q hq).2 (he ▸ hc)
    have hrest : rest = [] := by
      cases rest with
      | nil => rfl
      | cons c r =>
        exfalso
        have hcp : c ∈ plan := by rw [h1]; simp
        have hc := hplan c hcp
        rcases h6 c (hlist c hc.1) with h | h
        · exact hnf c hcp h
        · exact (eager_split (pre := pre) (h1 ▸ heag)).2 c h.1 (by simp)
    subst hrest
    have hF := h3
    unfold PA at hF
    have hpre : ∀ j, j ∈ pre → j ∈ plan := fun j hj => by rw [h1]; simp [hj]
    have hkF : Kn n (dpF l vs pre.reverse ++ f0) a := Kn.app (by
      intro q hq
      obtain ⟨j, hj, hjd, rfl⟩ := mem_dpF hq
      have hj' : j ∈ pre := by simpa using hj
      rcases h6 j (hlist j (hplan j (hpre j hj')).1) with h | h
      · exact absurd h (hnf j (hpre j hj'))
      · exact h.2 hjd) hk
    refine FinA.use (bs := bs) (hF w' (Keep.refl _ _)) (fun q hq => ?_) hnd (fun q q' hq hq' hne => h9 q q' hq hq' (hlist _ (hfl1 q hq).1) (hlist _ (hfl1 q' hq').1) hne) a (kn_flFr hkF (fun q hq => (h7 q hq (hlist _ (hfl1 q hq).1)).1))
    obtain ⟨_, g2, g3, g4, g5⟩ := h7 q hq (hlist _ (hfl1 q hq).1)
    refine ⟨g2, g3, g4, fun j hj hjd v hv x hx => ?_, fun x hx => by cases hx⟩
    have hjp := hcsp j hj
    rcases get_dpF hv with ⟨j', hj', e0, e1, e2⟩ | e1
    · have hj2 : j' ∈ pre := by simpa using hj'
      have : j' = j := draw_distinct hdr (Nat.lt_of_lt_of_le (hplan j' (hpre j' hj2)).1 hpl) (Nat.lt_of_lt_of_le (hplan j hjp).1 hpl) e0 hjd e1
      subst this; subst e2
      exact g5 j' hj2 (by simpa using hj) x hx
    · rw [hfree j (hplan j hjp).1 hjd] at e1; cases e1
  refine wp_region_any hm ?_
  have key : ∀ (fuel : Nat) (listed : Array Bool) (a : Act) (w' : World), listed.size = l.length → left l.length listed ≤ fuel → Kn n f0 a → (∀ i, p ≤ i → i < l.length → listed.getD i false = false) → (∀ i, listed.getD i false = true → i < p) →
      (∀ i j, listed.getD i false = true → depB l i j = true → listed.getD j false = true) → w.heap.size ≤ w'.heap.size →
      (∃ pre rest vs, ∃ bs : Nat → Nat, plan = pre ++ rest ∧ (∀ c r, rest = c :: r → cs.contains c = true) ∧ PA P n l p T w.heap.size (fun i => cs.contains i) (fun f' w' => ∀ w2, Keep [] w' w2 → FinA P fin n k l p w.heap.size cs f' fl [] f' w2) rest (dpF l vs pre.reverse ++ f0) w' ∧
        (∀ i, i ∈ pre → cs.contains i = false → RdOkA P n l T f0 pre vs w' i) ∧ (∀ i, i ∈ pre → cs.contains i = true → listed.getD i false = true) ∧ (∀ i, listed.getD i false = true → (∃ q, q ∈ fl ∧ q.1 = i) ∨ i ∈ pre ∧ (hasDst l i = true → a.tmps.getD (dstOf l i) undef = vs i)) ∧
        (∀ q, q ∈ fl → listed.getD q.1 false = true → a.tmps.getD (dstOf l q.1) undef = .pointer (some ⟨bs q.1, 0, none⟩) ∧ w.heap.size ≤ bs q.1 ∧ bs q.1 < w'.heap.size ∧ Bk w' (bs q.1) q.2.1 q.2.2 ∧ ∀ j, j ∈ pre → cs.contains j = true → ∀ x, x ∈ cblk (vs j) → x ≠ bs q.1) ∧
        (∀ j, j ∈ pre → cs.contains j = true → ∀ x, x ∈ cblk (vs j) → x < w'.heap.size) ∧
        (∀ q q', q ∈ fl → q' ∈ fl → listed.getD q.1 false = true → listed.getD q'.1 false = true → q.1 ≠ q'.1 → bs q.1 ≠ bs q'.1)) →
      wpAny P .any l.toArray (KQ P fin k) fuel listed a w' := by
    intro fuel
    induction fuel with
    | zero =>
      intro listed a w' hs hle hk hun hlp hcl hsz hst
      have hlist : ∀ i, i < l.length → listed.getD i false = true := by
        intro i hi
        cases hc : listed.getD i false with
        | true => rfl
        | false =>
          exfalso
          have := left_set hi hs (by rw [getD_lists hs hi true false]; exact hc)
          omega
      have hpe : p = l.length := by
        rcases Nat.lt_or_ge p l.length with h1 | h1
        · have := hun p (Nat.le_refl _) h1; rw [hlist p h1] at this; cases this
        · omega
      refine wpAny_tail2 hdr ht 0 p 0 listed a w' (by omega) hpl (Nat.le_refl _) (Nat.le_refl _) hs (fun i hi => by rw [hlist i hi]; simp; omega) ?_
      exact hend listed a w' hk (fun i hi => hlist i (by omega)) hsz hst
    | succ fuel ih =>
      intro listed a w' hs hle hk hun hlp hcl hsz hst
      by_cases hfull : ∀ i, i < p → listed.getD i false = true
      · refine wpAny_tail2 hdr ht (l.length - p) p (fuel + 1) listed a w' rfl hpl (Nat.le_refl _) ?_ hs (fun i hi => ?_) (hend listed a w' hk hfull hsz hst)
        · refine Nat.le_trans ?_ hle
          unfold left
          have e1 : l.length - p = ((List.range' p (l.length - p)).countP fun i => !listed.getD i true) := by
            rw [List.countP_eq_length.2 (fun i hi => ?_)]
            · simp
            · rw [List.mem_range'_1] at hi
              rw [getD_lists hs (by omega) true false, hun i (by omega) (by omega)]; rfl
          rw [e1]
          have e2 : List.range l.length = List.range p ++ List.range' p (l.length - p) := by
            have e3 := List.range'_append_1 (s := 0) (m := p) (n := l.length - p)
            rw [Nat.zero_add] at e3
            rw [List.range_eq_range', List.range_eq_range', e3]; congr 1; omega
          rw [e2, List.countP_append]; omega
        · by_cases hip : i < p
          · rw [hfull i hip]; simp [hip]
          · rw [hun i (by omega) hi]; simp [hip]
      · obtain ⟨pre, rest, vs, bs, h1, h2, h3, h4, h5, h6, h7, h8, h9⟩ := hst
        have hnf : ∀ c, c ∈ plan → ¬ ∃ q, q ∈ fl ∧ q.1 = c := fun c hc ⟨q, hq, he⟩ => (hfl1 q hq).2 (he ▸ hc)
        obtain ⟨q, hq⟩ := Classical.not_forall.1 hfull
        obtain ⟨hq1, hq2⟩ := Classical.not_imp.1 hq
        have hq2 : listed.getD q false = false := eq_false_of_ne_true hq2
        refine ⟨fun hr => (by
          have := all_listed hdr rfl hs hr q (by omega)
          rw [hq2] at this; cases this), fun i hi => ?_⟩
        obtain ⟨h0, o, ho, hedge⟩ := mem_ready.1 hi
        have ho' : l[i]? = some o := by simpa using ho
        have hlt : i < l.length := (List.getElem?_eq_some_iff.1 ho').1
        have hdepl : ∀ j, depB l i j = true → listed.getD j false = true := by
          intro j hj
          simp only [depB, ho'] at hj
          obtain ⟨e, he, h7⟩ := List.any_eq_true.1 hj
          simp only [Bool.and_eq_true, beq_iff_eq] at h7
          have := hedge e (Array.mem_toList_iff.1 he) h7.2
          rwa [h7.1] at this
        have hip : i < p := by
          rcases Nat.lt_or_ge i p with h7 | h7
          · exact h7
          · exfalso
            rcases Nat.lt_or_ge p i with h8 | h8
            · have := hdepl _ (tail2_next ht hlt h8)
              rw [hun (i - 1) (by omega) (by omega)] at this; cases this
            · have hpi : i = p := by omega
              have := tail2_all (S := fun j => listed.getD j false = true) ht (by omega) (fun m j hm hd => hm.elim (fun e => hdepl j (by rw [hpi, ← e]; exact hd)) (fun hl => hcl m j hl hd)) _ q hq1 rfl
              rw [hq2] at this; cases this
        have hil : listed.getD i false = false := by rw [getD_lists hs hlt false true]; exact h0
        have hidn : ∀ d, o.dst = some d → hasDst l i = true ∧ dstOf l i = d ∧ d < n := by
          intro d hd
          have hdd : dstOf l i = d := by simp [dstOf, ho', hd]
          refine ⟨by simp [hasDst, ho', hd], hdd, ?_⟩
          have h8 := List.all_eq_true.1 hdr i (List.mem_range.2 hlt)
          simp only [ho', Bool.and_eq_true] at h8
          rw [hdd] at h8
          exact blt_lt h8.1.1
        have hids : hasDst l i = true → ∃ d, o.dst = some d := by
          intro hid
          unfold hasDst at hid; rw [ho'] at hid
          cases hd : o.dst with
          | none => rw [Option.bind_some, hd] at hid; cases hid
          | some d => exact ⟨d, rfl⟩
        have hleft := left_set hlt hs h0
        have hun' : ∀ j, p ≤ j → j < l.length → (listed.setIfInBounds i true).getD j false = false := fun j h1 h2 => by rw [getD_set_ne false (by omega)]; exact hun j h1 h2
        have hlp' : ∀ j, (listed.setIfInBounds i true).getD j false = true → j < p := by
          intro j hj
          by_cases hij : i = j
          · subst hij; exact hip
          · rw [getD_set_ne false hij] at hj; exact hlp j hj
        have hcl' : ∀ m j, (listed.setIfInBounds i true).getD m false = true → depB l m j = true → (listed.setIfInBounds i true).getD j false = true := by
          intro m j hm hd
          have hj : listed.getD j false = true := by
            by_cases him : i = m
            · exact hdepl j (him ▸ hd)
            · rw [getD_set_ne false him] at hm; exact hcl m j hm hd
          by_cases hij : i = j
          · subst hij; rw [hil] at hj; cases hj
          · rw [getD_set_ne false hij]; exact hj
        have hput : ∀ v, hasDst l i = true → (a.put o.dst v).tmps.getD (dstOf l i) undef = v := by
          intro v hid
          obtain ⟨d, hod⟩ := hids hid
          obtain ⟨_, hdd, hdn⟩ := hidn d hod
          rw [hdd, hod]; simp [Act.put, Array.getD_eq_getD_getElem?, hk.size, hdn]
        have hputo : ∀ v j, j < p → hasDst l j = true → i ≠ j → (a.put o.dst v).tmps.getD (dstOf l j) undef = a.tmps.getD (dstOf l j) undef := by
          intro v j hj hdj hij
          cases hod : o.dst with
          | none => rfl
          | some d =>
            obtain ⟨hid, hdd, hdn⟩ := hidn d hod
            have hne : d ≠ dstOf l j := fun e => hij (draw_distinct hdr hlt (by omega) hid hdj (by rw [hdd, e]))
            simp only [Act.put, Array.getD_eq_getD_getElem?]; rw [Array.getElem?_setIfInBounds_ne hne]
        have hkput : ∀ v, Kn n f0 (a.put o.dst v) := by
          intro v
          cases hod : o.dst with
          | none => exact hk
          | some d =>
            obtain ⟨hid, hdd, hdn⟩ := hidn d hod
            exact hk.putOther (by rw [← hdd]; exact hfree i hip hid) v
        have hpre : ∀ j, j ∈ pre → j ∈ plan := fun j hj => by rw [h1]; simp [hj]
        have hpredep : ∀ j, depB l i j = true → j ∈ pre → hasDst l j = true → a.tmps.getD (dstOf l j) undef = vs j := fun j hj hjp hjd => (h6 j (hdepl j hj)).elim (fun h => absurd h (hnf j (hpre j hjp))) (fun h => h.2 hjd)
        have hfd : ∀ q, q ∈ fl → hasDst l q.1 = true := by
          intro q hq
          obtain ⟨d, ty, pos, aft, s, by_, hg, _⟩ := hfl q hq
          unfold hasDst; rw [hg]; rfl
        have step : ∀ f1, Kn n f1 a → ∀ R : Value → World → Prop, PStep P n l.toArray o f1 w' R → (∀ v w2, R v w2 → wpAny P .any l.toArray (KQ P fin k) fuel (listed.setIfInBounds i true) (a.put o.dst v) w2) → wpOp P l.toArray (KQ P fin k) i (wpAny P .any l.toArray (KQ P fin k) fuel (listed.setIfInBounds i true)) a w' := by
          intro f1 hkf R hp hn
          obtain ⟨p1, p2⟩ := hp a hkf (wpAny P .any l.toArray (KQ P fin k) fuel (listed.setIfInBounds i true)) (KQ P fin k) hn
          unfold wpOp
          rw [ho]
          simp only
          by_cases hw : Region.wanted o (yielded l.toArray a.tmps) = true
          · rw [if_pos hw]; exact .inl (p1 hw)
          · rw [if_neg hw]; exact p2 (eq_false_of_ne_true hw)
        rcases hmem i hip with hpl1 | ⟨q, hqf, hqi⟩
        · have hpm := hpl1
          rw [h1] at hpm
          have hifl : ∀ q, q ∈ fl → i ≠ q.1 := fun q hq e => hnf i hpl1 ⟨q, hq, e.symm⟩
          rcases List.mem_append.1 hpm with hpre1 | hrs
          · have hcb : cs.contains i = false := by
              cases hc : cs.contains i with
              | false => rfl
              | true => have := h5 i hpre1 hc; rw [hil] at this; cases this
            obtain ⟨o2, f1, g1, g2, g3⟩ := h4 i hpre1 hcb
            rw [ho'] at g1
            simp only [Option.some.injEq] at g1
            subst g1
            refine step f1 (kn_lkA hk g2 hpredep) _ (g3 w' (Keep.refl _ _)) ?_
            rintro v w2 ⟨rfl, rfl⟩
            refine ih _ _ _ (by simpa using hs) (by omega) (hkput _) hun' hlp' hcl' hsz ⟨pre, rest, vs, bs, h1, h2, h3, h4, fun j hj hc => ?_, fun j hj => ?_, fun q hq hlq => ?_, h8, fun q q' hq hq' hl1 hl2 => ?_⟩
            · by_cases hij : i = j
              · subst hij; rw [hcb] at hc; cases hc
              · rw [getD_set_ne false hij]; exact h5 j hj hc
            · by_cases hij : i = j
              · subst hij; exact .inr ⟨hpre1, hput _⟩
              · rw [getD_set_ne false hij] at hj
                rcases h6 j hj with h | ⟨m1, m2⟩
                · exact .inl h
                · have hpj := hplan j (hpre j m1)
                  exact .inr ⟨m1, fun hjd => by rw [hputo _ j hpj.1 hjd hij]; exact m2 hjd⟩
            · rw [getD_set_ne false (hifl q hq)] at hlq
              obtain ⟨m1, m2⟩ := h7 q hq hlq
              exact ⟨by rw [hputo _ q.1 (hfl1 q hq).1 (hfd q hq) (hifl q hq)]; exact m1, m2⟩
            · rw [getD_set_ne false (hifl q hq)] at hl1
              rw [getD_set_ne false (hifl q' hq')] at hl2
              exact h9 q q' hq hq' hl1 hl2
          · cases rest with
            | nil => cases hrs
            | cons c r =>
              have hcc := h2 c r rfl
              rw [h1] at heag
              obtain ⟨he1, he2⟩ := eager_split heag
              rcases List.mem_cons.1 hrs with hic | hir
              · subst hic
                have h30 := h3
                unfold PA at h30
                obtain ⟨o2, f1, g1, g2, g3, g4⟩ := h30
                rw [ho'] at g1
                simp only [Option.some.injEq] at g1
                subst g1
                rcases g4 with ⟨_, g4⟩ | ⟨g4, _⟩
                · have hlk := lkA_of (f0 := f0) hdr hpl (fun j hj => (hplan j (hpre j hj)).1) g2 g3
                  refine step f1 (kn_lkA hk hlk hpredep) _ (g4 w' (Keep.refl _ _)) ?_
                  rintro v w2 ⟨hkw, hcv, hpw⟩
                  have hni : i ∉ pre := fun hm => he2 i hm (by simp)
                  have hnr : i ∉ pre.reverse := by simpa using hni
                  have hmm : ∀ j, j ∈ pre → j ∈ pre ++ [i] ∧ setV vs i v j = vs j := fun j hj => ⟨by simp [hj], setV_other vs v (fun e => hni (e ▸ hj))⟩
                  obtain ⟨pre', rest', vs', k1, k2, k3, k4, k5, k6⟩ := absorbA (f0 := f0) (T := T) (s0 := w.heap.size) (cb := fun i => cs.contains i) hdr hpl r (pre ++ [i]) (setV vs i v) w2 (by rw [List.append_assoc, List.singleton_append]; exact heag) (by rw [List.append_assoc, List.singleton_append, ← h1]; exact hplan)
                    (by rw [List.reverse_append, List.reverse_singleton, List.singleton_append, dpF_cons, setV_same, dpF_setV hnr]; exact hpw)
                    (fun j hj hcj => by
                      rcases List.mem_append.1 hj with h | h
                      · exact (h4 j h hcj).mono h hmm hkw
                      · rw [List.mem_singleton] at h
                        subst h; rw [hcc] at hcj; cases hcj)
                  have hsame : ∀ j, j ∈ pre → j ∈ pre' ∧ vs' j = vs j := fun j hj => ⟨(k2 j (hmm j hj).1).1, ((k2 j (hmm j hj).1).2).trans (hmm j hj).2⟩
                  have hci := k2 i (by simp)
                  rw [setV_same] at hci
                  have hcall : ∀ j, j ∈ pre' → cs.contains j = true → j ∈ pre ∧ vs' j = vs j ∨ j = i := by
                    intro j hj hc
                    rcases k3 j hj with h | h
                    · rcases List.mem_append.1 h with h | h
                      · exact .inl ⟨h, (hsame j h).2⟩
                      · rw [List.mem_singleton] at h; exact .inr h
                    · rw [hc] at h; cases h
                  refine ih _ _ _ (by simpa using hs) (by omega) (hkput _) hun' hlp' hcl' (Nat.le_trans hsz hkw.size) ⟨pre', rest', vs', bs, by rw [← k1, h1]; simp, k4, k5, k6, fun j hj hc => ?_, fun j hj => ?_, fun q hq hlq => ?_, fun j hj hc x hx => ?_, fun q q' hq hq' hl1 hl2 => ?_⟩
                  · by_cases hij : i = j
                    · subst hij
                      rw [Array.getD_eq_getD_getElem?]; simp [hs, hlt]
                    · rw [getD_set_ne false hij]
                      rcases hcall j hj hc with h | h
                      · exact h5 j h.1 hc
                      · exact absurd h.symm hij
                  · by_cases hij : i = j
                    · subst hij; exact .inr ⟨hci.1, fun hid => by rw [hput _ hid, hci.2]⟩
                    · rw [getD_set_ne false hij] at hj
                      rcases h6 j hj with h | ⟨m1, m2⟩
                      · exact .inl h
                      · have hpj := hplan j (hpre j m1)
                        exact .inr ⟨(hsame j m1).1, fun hjd => by rw [hputo _ j hpj.1 hjd hij, (hsame j m1).2]; exact m2 hjd⟩
                  · rw [getD_set_ne false (hifl q hq)] at hlq
                    obtain ⟨m1, m2, m3, m4, m5⟩ := h7 q hq hlq
                    refine ⟨by rw [hputo _ q.1 (hfl1 q hq).1 (hfd q hq) (hifl q hq)]; exact m1, m2, Nat.lt_of_lt_of_le m3 hkw.size, m4.keep hkw (fun hm => by have := hT _ hm; omega), fun j hj hc x hx => ?_⟩
                    rcases hcall j hj hc with ⟨h, e⟩ | h
                    · rw [e] at hx; exact m5 j h hc x hx
                    · subst h
                      rw [hci.2] at hx
                      have := (hcv x hx).1
                      intro e; omega
                  · rcases hcall j hj hc with ⟨h, e⟩ | h
                    · rw [e] at hx; exact Nat.lt_of_lt_of_le (h8 j h hc x hx) hkw.size
                    · subst h
                      rw [hci.2] at hx
                      exact (hcv x hx).2
                  · rw [getD_set_ne false (hifl q hq)] at hl1
                    rw [getD_set_ne false (hifl q' hq')] at hl2
                    exact h9 q q' hq hq' hl1 hl2
                · rw [hcc] at g4; cases g4
              · exfalso
                simp only [eager, Bool.and_eq_true] at he1
                have h7 := he1.1.2
                rw [hcc, Bool.not_true, Bool.false_or] at h7
                have h8 := List.all_eq_true.1 h7 i hir
                obtain ⟨j, hj, hdj⟩ := List.any_eq_true.1 h8
                have hjp : j ∈ plan := by rw [h1]; exact List.mem_append_right _ hj
                rcases h6 j (hdepl j hdj) with h | h
                · exact hnf j hjp h
                · exact he2 j h.1 hj
        · subst hqi
          obtain ⟨d', ty, pos, aft, s, by_, hg, hTy⟩ := hfl q hqf
          rw [hg] at ho'
          simp only [Option.some.injEq] at ho'
          have hnp : q.1 ∉ pre := fun hm => (hfl1 q hqf).2 (hpre _ hm)
          refine step [] ⟨hk.size, hk.defers, fun t v h => by cases h⟩ (fun v' w2 => ∃ b, v' = .pointer (some ⟨b, 0, none⟩) ∧ b = w'.heap.size ∧ Bk w2 b q.2.1 q.2.2 ∧ Keep [] w' w2 ∧ w2.heap.size = w'.heap.size + 1) ?_ ?_
          · subst ho'
            intro a1 ha1 K Q hK
            refine ⟨fun _ => d_alloc (n := n) (f := []) hTy a1 ha1 _ _ _ _ K Q hK, fun h => by simp [Region.wanted] at h⟩
          · rintro v w2 ⟨b, rfl, rfl, hb, hkb, hsb⟩
            have hqne : ∀ q', q' ∈ fl → q'.1 ≠ q.1 → q.1 ≠ q'.1 := fun q' _ h e => h e.symm
            refine ih _ _ _ (by simpa using hs) (by omega) (hkput _) hun' hlp' hcl' (by omega) ⟨pre, rest, vs, setB bs q.1 w'.heap.size, h1, h2, PA.grow hgrow _ _ _ _ hkb h3, fun j hj hc => (h4 j hj hc).mono hj (fun j hj => ⟨hj, rfl⟩) hkb.weak, fun j hj hc => ?_, fun j hj => ?_, fun q' hq' hlq => ?_, fun j hj hc x hx => by have := h8 j hj hc x hx; omega, fun q1 q2 hq1 hq2 hl1 hl2 hne => ?_⟩
            · rw [getD_set_ne false (fun e => hnp (by rw [e]; exact hj))]; exact h5 j hj hc
            · by_cases hij : q.1 = j
              · exact .inl ⟨q, hqf, hij⟩
              · rw [getD_set_ne false hij] at hj
                rcases h6 j hj with h | ⟨m1, m2⟩
                · exact .inl h
                · have hpj := hplan j (hpre j m1)
                  exact .inr ⟨m1, fun hjd => by rw [hputo _ j hpj.1 hjd hij]; exact m2 hjd⟩
            · by_cases hqq : q.1 = q'.1
              · have hqe : q' = q := nd_eq hnd hqf hq' hqq
                subst hqe
                refine ⟨by rw [hput _ (hfd q' hqf), setB_same], by rw [setB_same]; omega, by rw [setB_same]; omega, by rw [setB_same]; exact hb, fun j hj hc x hx => ?_⟩
                rw [setB_same]
                have := h8 j hj hc x hx
                omega
              · rw [getD_set_ne false hqq] at hlq
                obtain ⟨m1, m2, m3, m4, m5⟩ := h7 q' hq' hlq
                rw [setB_other bs _ (Ne.symm hqq)]
                exact ⟨by rw [hputo _ q'.1 (hfl1 q' hq').1 (hfd q' hq') hqq]; exact m1, m2, by omega, m4.keep0 hkb, m5⟩
            · by_cases e1 : q.1 = q1.1
              · have e2 : q.1 ≠ q2.1 := fun e => hne (e1.symm.trans e)
                rw [getD_set_ne false e2] at hl2
                rw [← e1, setB_same, setB_other bs _ (Ne.symm e2)]
                have := (h7 q2 hq2 hl2).2.2.1
                omega
              · rw [getD_set_ne false e1] at hl1
                rw [setB_other bs _ (Ne.symm e1)]
                by_cases e2 : q.1 = q2.1
                · rw [← e2, setB_same]
                  have := (h7 q1 hq1 hl1).2.2.1
                  omega
                · rw [getD_set_ne false e2] at hl2
                  rw [setB_other bs _ (Ne.symm e2)]
                  exact h9 q1 q2 hq1 hq2 hl1 hl2 hne
  obtain ⟨pre', rest', vs', k1, k2, k3, k4, k5, k6⟩ := absorbA (f0 := f0) (T := T) (s0 := w.heap.size) (cb := fun i => cs.contains i) hdr hpl plan [] (fun _ => undef) _ heag hplan (h _ (keep_drew w)) (fun i hi => by cases hi)
  have hemp : ∀ i, ¬ (Array.replicate l.toArray.size false).getD i false = true := by
    intro i hi
    rw [Array.getD_eq_getD_getElem?] at hi
    rcases Nat.lt_or_ge i l.toArray.size with h' | h'
    · rw [Array.getElem?_eq_getElem (by simpa using h')] at hi; simp at hi
    · rw [Array.getElem?_eq_none (by simpa using h')] at hi; simp at hi
  refine key _ _ a _ (by simp) ?_ ha0 ?_ (fun i hi => absurd hi (hemp i)) (fun i _ hi => absurd hi (hemp i)) (Nat.le_refl _) ⟨pre', rest', vs', fun _ => 0, k1, k4, k5, k6, fun i hi hc => ?_, fun i hi => absurd hi (hemp i), fun q _ hq => absurd hq (hemp _), fun j hj hc => ?_, fun q q' _ _ hq => absurd hq (hemp _)⟩
  · unfold left
    have := List.countP_le_length (p := fun i => !(Array.replicate l.toArray.size false).getD i true) (l := List.range l.length)
    simpa using this
  · intro i _ hi
    rw [Array.getD_eq_getD_getElem?, Array.getElem?_eq_getElem (by simpa using hi)]; simp
  · rcases k3 i hi with h | h
    · cases h
    · rw [hc] at h; cases h
  · rcases k3 j hj with h | h
    · cases h
    · rw [hc] at h; cases h
end
end Go.Eng
