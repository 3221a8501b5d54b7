/- Contracts and laws, part 3 of 4: what each function of the program and of the reference computes, shown once. -/
import Derived.Below
import Derived.ChangeOld
import Derived.OpenShut
import Derived.ProofKit
import Derived.ShutString
import Derived.SizedLaws
import Derived.Stop.BytesEq
import Derived.WalkKit
import Derived.Test.YtimeclfplaonkaaQib
set_option linter.unusedVariables false
set_option linter.unusedSimpArgs false
namespace Go.Eng
open Go Go.IntWalk
def cblk : Value → List Nat
  | .tuple vs => vs.toList.flatMap fun u => u.cells.toList.flatMap vblk
  | v => v.cells.toList.flatMap vblk
section
variable {P : Program} {n : Nat}
def tailOk2 (l : List Oper) (p : Nat) : Bool := Nat.ble p l.length && ((List.range l.length).all fun i => !(Nat.blt p i) || depB l i (i - 1)) && (Nat.ble l.length p || (List.range p).all fun j => (List.range (p + 1)).any fun m => Nat.blt j m && depB l m j)
theorem dep_edge {l : List Oper} {i j : Nat} (h : depB l i j = true) : ∃ o, l[i]? = some o ∧ ∃ e ∈ o.after, e.on = j ∧ Region.binds .any e = true := by
  unfold depB at h
  cases ho : l[i]? with
  | none => rw [ho] at h; cases h
  | some o =>
    rw [ho] at h
    obtain ⟨e, he, h3⟩ := List.any_eq_true.1 h
    simp only [Bool.and_eq_true, beq_iff_eq] at h3
    exact ⟨o, rfl, e, Array.mem_toList_iff.1 he, h3.1, h3.2⟩
theorem tail2_next {l : List Oper} {p i : Nat} (h : tailOk2 l p = true) (hi : i < l.length) (hp : p < i) : depB l i (i - 1) = true := by
  simp only [tailOk2, Bool.and_eq_true] at h
  have h1 := List.all_eq_true.1 h.1.2 i (List.mem_range.2 hi)
  have hn : Nat.blt p i = true := Nat.ble_eq_true_of_le hp
  rw [hn] at h1; simpa using h1
theorem tail2_all {l : List Oper} {p : Nat} {S : Nat → Prop} (h : tailOk2 l p = true) (hp : p < l.length) (hS : ∀ i j, i = p ∨ S i → depB l i j = true → S j) : ∀ d j, j < p → d = p - j → S j := by
  intro d
  induction d using Nat.strongRecOn with
  | ind d ih =>
    intro j hj hd
    simp only [tailOk2, Bool.and_eq_true, Bool.or_eq_true] at h
    rcases h.2 with h1 | h1
    · have := Nat.le_of_ble_eq_true h1; omega
    · obtain ⟨m, hm, h2⟩ := List.any_eq_true.1 (List.all_eq_true.1 h1 j (List.mem_range.2 hj))
      simp only [Bool.and_eq_true] at h2
      have h3 := blt_lt h2.1
      have h4 := List.mem_range.1 hm
      refine hS m j ?_ h2.2
      rcases Nat.lt_or_ge m p with h5 | h5
      · exact .inr (ih (p - m) (by omega) m h5 rfl)
      · exact .inl (by omega)
theorem wpAny_tail2 {l : List Oper} {p0 : Nat} {Q : Exit → Act → World → Prop} (hok : drawOk n l = true) (ht : tailOk2 l p0 = true) : ∀ (d p fuel : Nat) (listed : Array Bool) (a : Act) (w : World), d = l.length - p → p ≤ l.length → p0 ≤ p → d ≤ fuel → listed.size = l.length →
    (∀ i, i < l.length → listed.getD i false = decide (i < p)) → wpList P l.toArray Q (l.drop p) a w → wpAny P .any l.toArray Q fuel listed a w := by
  intro d
  induction d with
  | zero =>
    intro p fuel listed a w hd hp hp0 hf hs hl h
    have hpl : p = l.length := by omega
    subst hpl
    rw [List.drop_length] at h
    have hr : Region.ready .any l.toArray listed = [] := by
      cases hr : Region.ready .any l.toArray listed with
      | nil => rfl
      | cons i r =>
        exfalso
        have hi : i ∈ Region.ready .any l.toArray listed := by rw [hr]; simp
        obtain ⟨h0, o, ho, _⟩ := mem_ready.1 hi
        have hlt : i < l.length := by have := (Array.getElem?_eq_some_iff.1 ho).1; simpa using this
        rw [getD_lists hs hlt true false, hl i hlt] at h0
        simp [hlt] at h0
    cases fuel with
    | zero => exact ⟨hr, h⟩
    | succ f => exact ⟨fun _ => h, fun i hi => by rw [hr] at hi; cases hi⟩
  | succ d ih =>
    intro p fuel listed a w hd hp hp0 hf hs hl h
    have hplt : p < l.length := by omega
    obtain ⟨f, rfl⟩ : ∃ f, fuel = f + 1 := ⟨fuel - 1, by omega⟩
    have hget : l[p]? = some l[p] := List.getElem?_eq_getElem hplt
    have honly : ∀ i, i ∈ Region.ready .any l.toArray listed → i = p := by
      intro i hi
      obtain ⟨h0, o, ho, hedge⟩ := mem_ready.1 hi
      have hlt : i < l.length := by have := (Array.getElem?_eq_some_iff.1 ho).1; simpa using this
      have h1 : ¬ i < p := by
        rw [getD_lists hs hlt true false, hl i hlt] at h0
        simpa using h0
      rcases Nat.lt_or_ge p i with h2 | h2
      · obtain ⟨o', ho', e, he, h3, h4⟩ := dep_edge (tail2_next ht hlt (by omega))
        rw [show l[i]? = some o from by simpa using ho] at ho'
        obtain rfl := Option.some.inj ho'
        have := hedge e he h4
        rw [h3, hl (i - 1) (by omega)] at this
        have := of_decide_eq_true this
        omega
      · omega
    have hmem : p ∈ Region.ready .any l.toArray listed := by
      refine mem_ready.2 ⟨by rw [getD_lists hs hplt true false, hl p hplt]; simp, l[p], by simp [hget], fun e he hb => ?_⟩
      have h1 := List.all_eq_true.1 hok p (List.mem_range.2 hplt)
      simp only [hget, Bool.and_eq_true] at h1
      have h2 := List.all_eq_true.1 h1.1.2 e (Array.mem_toList_iff.2 he)
      rw [hb] at h2
      have h3 : e.on < p := blt_lt (by simpa using h2)
      rw [hl e.on (by omega)]; simpa using h3
    refine ⟨fun hr => (by rw [hr] at hmem; cases hmem), fun i hi => ?_⟩
    have := honly i hi
    subst this
    rw [List.drop_eq_getElem_cons hplt] at h
    unfold wpOp
    rw [show l.toArray[i]? = some l[i] from by simp [hget]]
    simp only
    unfold wpList at h
    have hnext : ∀ a' w', wpList P l.toArray Q (l.drop (i + 1)) a' w' → wpAny P .any l.toArray Q f (listed.setIfInBounds i true) a' w' := by
      intro a' w' h'
      refine ih (i + 1) f _ a' w' (by omega) (by omega) (by omega) (by omega) (by simpa using hs) ?_ h'
      intro j hj
      by_cases hij : i = j
      · subst hij
        rw [Array.getD_eq_getD_getElem?]; simp [hs, hj]
      · rw [getD_set_ne false hij, hl j hj]
        by_cases h1 : j < i
        · simp [h1]; omega
        · simp [h1]; omega
    split at h
    · rename_i hw
      rw [if_pos hw]
      exact h.imp (fun h => Oper.wp_mono (fun a' w' h' => hnext a' w' h') h) id
    · rename_i hw
      rw [if_neg hw]
      exact hnext _ _ h
def dpF (l : List Oper) (vs : Nat → Value) : List Nat → Fr
  | [] => []
  | j :: r => bif hasDst l j then (dstOf l j, vs j) :: dpF l vs r else dpF l vs r
theorem mem_dpF {l : List Oper} {vs : Nat → Value} {q : Nat × Value} : ∀ {deps : List Nat}, q ∈ dpF l vs deps → ∃ j, j ∈ deps ∧ hasDst l j = true ∧ q = (dstOf l j, vs j)
  | [], h => by cases h
  | j :: r, h => by
    unfold dpF at h
    cases hd : hasDst l j with
    | true =>
      rw [hd, cond_true, List.mem_cons] at h
      rcases h with h | h
      · exact ⟨j, by simp, hd, h⟩
      · obtain ⟨i, h1, h2, h3⟩ := mem_dpF h
        exact ⟨i, by simp [h1], h2, h3⟩
    | false =>
      rw [hd, cond_false] at h
      obtain ⟨i, h1, h2, h3⟩ := mem_dpF h
      exact ⟨i, by simp [h1], h2, h3⟩
theorem get_dpF {l : List Oper} {vs : Nat → Value} {f0 : Fr} : ∀ {pre : List Nat} {t : Nat} {u : Value}, (dpF l vs pre ++ f0).get t = some u → (∃ j, j ∈ pre ∧ hasDst l j = true ∧ dstOf l j = t ∧ vs j = u) ∨ f0.get t = some u
  | [], t, u, h => .inr h
  | j :: r, t, u, h => by
    have rest : (dpF l vs r ++ f0).get t = some u → (∃ i, i ∈ j :: r ∧ hasDst l i = true ∧ dstOf l i = t ∧ vs i = u) ∨ f0.get t = some u := by
      intro h
      rcases get_dpF (pre := r) h with ⟨i, hi, h1, h2⟩ | h1
      · exact .inl ⟨i, by simp [hi], h1, h2⟩
      · exact .inr h1
    unfold dpF at h
    cases hd : hasDst l j with
    | false => rw [hd, cond_false] at h; exact rest h
    | true =>
      rw [hd, cond_true] at h
      simp only [List.cons_append, Fr.get] at h
      by_cases e : Nat.beq (dstOf l j) t = true
      · rw [e] at h
        simp only [cond_true, Option.some.injEq] at h
        exact .inl ⟨j, by simp, hd, Nat.eq_of_beq_eq_true e, h⟩
      · have e' : Nat.beq (dstOf l j) t = false := eq_false_of_ne_true e
        rw [e'] at h
        exact rest h
def frPut (l : List Oper) (i : Nat) (v : Value) (f : Fr) : Fr := bif hasDst l i then (dstOf l i, v) :: f else f
theorem dpF_cons {l : List Oper} {vs : Nat → Value} {i : Nat} {r : List Nat} {f0 : Fr} : dpF l vs (i :: r) ++ f0 = frPut l i (vs i) (dpF l vs r ++ f0) := by
  unfold frPut
  simp only [dpF]
  cases hasDst l i <;> rfl
section
variable {l : List Oper} {p : Nat} {T : List Nat} {f0 : Fr}
def LkA (l : List Oper) (f0 : Fr) (pre : List Nat) (vs : Nat → Value) (i : Nat) (f1 : Fr) : Prop :=
  ∀ t u, f1.get t = some u → (∃ j, j ∈ pre ∧ depB l i j = true ∧ hasDst l j = true ∧ dstOf l j = t ∧ vs j = u) ∨ f0.get t = some u
theorem lkA_of {n : Nat} (hok : drawOk n l = true) (hpl : p ≤ l.length) {pre : List Nat} {vs : Nat → Value} {i : Nat} {f1 : Fr} (hpre : ∀ j, j ∈ pre → j < p) (hs : Fr.sub f1 (dpF l vs pre.reverse ++ f0)) (h : slotsOk l p i f1 = true) : LkA l f0 pre vs i f1 := by
  intro t u ht
  rcases get_dpF (sub_get hs t u ht) with ⟨j, hj, h0, h1, h2⟩ | h1
  · have hj' : j ∈ pre := by simpa using hj
    obtain ⟨q, hq, hq'⟩ := get_mem ht
    have h3 := List.all_eq_true.1 h q hq
    simp only [Bool.or_eq_true] at h3
    rcases h3 with h3 | h3
    · have h4 := List.all_eq_true.1 h3 j (List.mem_range.2 (hpre j hj'))
      rw [h0, hq'] at h4
      simp [h1] at h4
    · obtain ⟨j', hj1, h5⟩ := List.any_eq_true.1 h3
      simp only [Bool.and_eq_true, beq_iff_eq] at h5
      have hlt := List.mem_range.1 hj1
      have : j = j' := draw_distinct hok (Nat.lt_of_lt_of_le (hpre j hj') hpl) (Nat.lt_of_lt_of_le hlt hpl) h0 h5.2.1 (by rw [h1, h5.2.2, hq'])
      subst this
      exact .inl ⟨j, hj', h5.1, h0, h1, h2⟩
  · exact .inr h1
def RdOkA (P : Program) (n : Nat) (l : List Oper) (T : List Nat) (f0 : Fr) (pre : List Nat) (vs : Nat → Value) (w : World) (i : Nat) : Prop :=
  ∃ o f1, l[i]? = some o ∧ LkA l f0 pre vs i f1 ∧ ∀ w', Keep T w w' → PStep P n l.toArray o f1 w' (fun v' w'' => v' = vs i ∧ w'' = w')
theorem LkA.mono {pre pre' : List Nat} {vs vs' : Nat → Value} {i : Nat} {f1 : Fr} (h : LkA l f0 pre vs i f1) (hm : ∀ j, j ∈ pre → j ∈ pre' ∧ vs' j = vs j) : LkA l f0 pre' vs' i f1 := by
  intro t u ht
  rcases h t u ht with ⟨j, h1, h2, h3, h4, h5⟩ | h1
  · exact .inl ⟨j, (hm j h1).1, h2, h3, h4, by rw [(hm j h1).2, h5]⟩
  · exact .inr h1
theorem RdOkA.mono {pre pre' : List Nat} {vs vs' : Nat → Value} {w w' : World} {i : Nat} (h : RdOkA P n l T f0 pre vs w i) (hi : i ∈ pre) (hm : ∀ j, j ∈ pre → j ∈ pre' ∧ vs' j = vs j) (hk : Keep T w w') : RdOkA P n l T f0 pre' vs' w' i := by
  obtain ⟨o, f1, h1, h2, h3⟩ := h
  refine ⟨o, f1, h1, h2.mono hm, fun w2 hk2 => ?_⟩
  rw [(hm i hi).2]
  exact h3 w2 (hk.trans hk2)
theorem dpF_setV {vs : Nat → Value} {i : Nat} {v : Value} : ∀ {pre : List Nat}, i ∉ pre → dpF l (setV vs i v) pre = dpF l vs pre
  | [], _ => rfl
  | j :: r, h => by
    simp only [dpF]
    rw [setV_other vs v (fun e => h (by simp [e])), dpF_setV (pre := r) (fun hm => h (by simp [hm]))]
theorem kn_lkA {pre : List Nat} {vs : Nat → Value} {i : Nat} {f1 : Fr} {a : Act} (hk : Kn n f0 a) (hl : LkA l f0 pre vs i f1) (hd : ∀ j, depB l i j = true → j ∈ pre → hasDst l j = true → a.tmps.getD (dstOf l j) undef = vs j) : Kn n f1 a := by
  refine ⟨hk.size, hk.defers, fun t u ht => ?_⟩
  rcases hl t u ht with ⟨j, h1, h2, h3, h4, h5⟩ | h1
  · rw [← h4, ← h5]; exact hd j h2 h1 h3
  · exact hk.get t u h1
end
def planOkA (n : Nat) (l : List Oper) (p : Nat) (plan : List Nat) (cb : Nat → Bool) (fl : List Nat) : Bool :=
  drawOk n l && tailOk2 l p && plan.all (fun i => Nat.blt i p && (hasDst l i || cb i)) && (List.range p).all (fun i => plan.contains i || fl.contains i) && eager l cb plan && fl.all (fun i => Nat.blt i p && !plan.contains i)
def PA (P : Program) (n : Nat) (l : List Oper) (p : Nat) (T : List Nat) (O : Nat → Prop) (cb : Nat → Bool) (Fin : Fr → World → Prop) : List Nat → Fr → World → Prop
  | [], f, w => Fin f w
  | i :: r, f, w => ∃ o f1, l[i]? = some o ∧ Fr.sub f1 f ∧ slotsOk l p i f1 = true ∧
    ((cb i = true ∧ ∀ w1, Keep [] w w1 → PStep P n l.toArray o f1 w1 (fun v w' => Keep T w1 w' ∧ (∀ x, x ∈ cblk v → (O x ∨ w1.heap.size ≤ x) ∧ x < w'.heap.size) ∧ PA P n l p T O cb Fin r (frPut l i v f) w')) ∨
     (cb i = false ∧ ∃ v, (∀ w', Keep T w w' → PStep P n l.toArray o f1 w' (fun v' w'' => v' = v ∧ w'' = w')) ∧ PA P n l p T O cb Fin r (frPut l i v f) w))
theorem PA.grow {l : List Oper} {p : Nat} {T : List Nat} {O : Nat → Prop} {cb : Nat → Bool} {Fin : Fr → World → Prop} (hF : ∀ f w w', Keep [] w w' → Fin f w → Fin f w') : ∀ (pl : List Nat) (f : Fr) (w w' : World), Keep [] w w' → PA P n l p T O cb Fin pl f w → PA P n l p T O cb Fin pl f w'
  | [], f, w, w', k, h => by unfold PA at *; exact hF _ _ _ k h
  | i :: r, f, w, w', k, h => by
    unfold PA at *
    obtain ⟨o, f1, h1, h2, h3, h4⟩ := h
    refine ⟨o, f1, h1, h2, h3, ?_⟩
    rcases h4 with ⟨hc, h4⟩ | ⟨hc, v, h5, h6⟩
    · exact .inl ⟨hc, fun w1 k1 => h4 w1 (k.trans k1)⟩
    · exact .inr ⟨hc, v, fun w1 k1 => h5 w1 (k.weak.trans k1), PA.grow hF r _ w w' k h6⟩
section
variable {l : List Oper} {p : Nat} {T : List Nat} {O : Nat → Prop} {cb : Nat → Bool} {Fin : Fr → World → Prop} {f0 : Fr}
theorem absorbA {n : Nat} (hok : drawOk n l = true) (hpl : p ≤ l.length) : ∀ (rest pre : List Nat) (vs : Nat → Value) (w : World), eager l cb (pre ++ rest) = true → (∀ j, j ∈ pre ++ rest → j < p ∧ (hasDst l j = true ∨ cb j = true)) → PA P n l p T O cb Fin rest (dpF l vs pre.reverse ++ f0) w →
    (∀ i, i ∈ pre → cb i = false → RdOkA P n l T f0 pre vs w i) → ∃ pre' rest' vs', pre ++ rest = pre' ++ rest' ∧ (∀ i, i ∈ pre → i ∈ pre' ∧ vs' i = vs i) ∧ (∀ i, i ∈ pre' → i ∈ pre ∨ cb i = false) ∧ (∀ c r, rest' = c :: r → cb c = true) ∧
      PA P n l p T O cb Fin rest' (dpF l vs' pre'.reverse ++ f0) w ∧ ∀ i, i ∈ pre' → cb i = false → RdOkA P n l T f0 pre' vs' w i
  | [], pre, vs, w, _, _, h, hr => ⟨pre, [], vs, rfl, fun i hi => ⟨hi, rfl⟩, fun i hi => .inl hi, (fun c r h => by cases h), h, hr⟩
  | i :: r, pre, vs, w, he, hb, h, hr => by
    have h0 := h
    unfold PA at h
    obtain ⟨o, f1, h1, h2, h3, h4⟩ := h
    rcases h4 with ⟨hc, _⟩ | ⟨hc, v, h5, h6⟩
    · exact ⟨pre, i :: r, vs, rfl, fun i hi => ⟨hi, rfl⟩, fun i hi => .inl hi, (fun c r h => by cases h; exact hc), h0, hr⟩
    · have hni : i ∉ pre := fun hm => (eager_split he).2 i hm (by simp)
      have hlk := lkA_of (f0 := f0) hok hpl (fun j hj => (hb j (by simp [hj])).1) h2 h3
      have hm : ∀ j, j ∈ pre → j ∈ pre ++ [i] ∧ setV vs i v j = vs j := fun j hj => ⟨by simp [hj], setV_other vs v (fun e => hni (e ▸ hj))⟩
      have hnr : i ∉ pre.reverse := by simpa using hni
      obtain ⟨pre', rest', vs', k1, k2, k3, k4, k5, k6⟩ := absorbA hok hpl r (pre ++ [i]) (setV vs i v) w (by simpa using he) (by simpa using hb)
        (by rw [List.reverse_append, List.reverse_singleton, List.singleton_append, dpF_cons, setV_same, dpF_setV hnr]; exact h6)
        (fun j hj hcj => by
          rcases List.mem_append.1 hj with h | h
          · exact (hr j h hcj).mono h hm (Keep.refl _ _)
          · rw [List.mem_singleton] at h
            subst h
            refine ⟨o, f1, h1, hlk.mono hm, fun w2 hk2 => ?_⟩
            rw [setV_same]; exact h5 w2 hk2)
      refine ⟨pre', rest', vs', by simpa using k1, fun j hj => ?_, fun j hj => ?_, k4, k5, k6⟩
      · obtain ⟨q1, q2⟩ := k2 j (hm j hj).1
        exact ⟨q1, q2.trans (hm j hj).2⟩
      · rcases k3 j hj with h | h
        · rcases List.mem_append.1 h with h | h
          · exact .inl h
          · rw [List.mem_singleton] at h; subst h; exact .inr hc
        · exact .inr h
end
variable {fin : Exit → Act → World → Prop} {k : List KI} {f : Fr} {w : World}
def FinA (P : Program) (fin : Exit → Act → World → Prop) (n : Nat) (k : List KI) (l : List Oper) (p s0 : Nat) (cs : List Nat) (fc : Fr) : List (Nat × TypeId × List Value) → List Nat → Fr → World → Prop
  | [], _, f, w => OW P fin n k l.toArray (l.drop p) f w
  | q :: r, seen, f, w => ∀ b, s0 ≤ b → b < w.heap.size → Bk w b q.2.1 q.2.2 → (∀ x, x ∈ seen → x ≠ b) → (∀ j, j ∈ cs → hasDst l j = true → ∀ v, fc.get (dstOf l j) = some v → ∀ x, x ∈ cblk v → x ≠ b) →
    FinA P fin n k l p s0 cs fc r (b :: seen) ((dstOf l q.1, .pointer (some ⟨b, 0, none⟩)) :: f) w
def flFr (l : List Oper) (bs : Nat → Nat) : List (Nat × TypeId × List Value) → Fr → Fr
  | [], f => f
  | q :: r, f => flFr l bs r ((dstOf l q.1, .pointer (some ⟨bs q.1, 0, none⟩)) :: f)
theorem FinA.use {l : List Oper} {p s0 : Nat} {cs : List Nat} {fc : Fr} {bs : Nat → Nat} : ∀ {fl : List (Nat × TypeId × List Value)} {seen : List Nat} {f : Fr} {w : World}, FinA P fin n k l p s0 cs fc fl seen f w →
    (∀ q, q ∈ fl → s0 ≤ bs q.1 ∧ bs q.1 < w.heap.size ∧ Bk w (bs q.1) q.2.1 q.2.2 ∧ (∀ j, j ∈ cs → hasDst l j = true → ∀ v, fc.get (dstOf l j) = some v → ∀ x, x ∈ cblk v → x ≠ bs q.1) ∧ (∀ x, x ∈ seen → x ≠ bs q.1)) →
    (fl.map (·.1)).Nodup → (∀ q q', q ∈ fl → q' ∈ fl → q.1 ≠ q'.1 → bs q.1 ≠ bs q'.1) → OW P fin n k l.toArray (l.drop p) (flFr l bs fl f) w
  | [], seen, f, w, h, _, _, _ => h
  | q :: r, seen, f, w, h, hq, hnd, hd => by
    obtain ⟨h1, h2, h3, h4, h5⟩ := hq q (by simp)
    have hnd' := List.nodup_cons.1 hnd
    refine FinA.use (fl := r) (f := (dstOf l q.1, .pointer (some ⟨bs q.1, 0, none⟩)) :: f) (h (bs q.1) h1 h2 h3 h5 h4) (fun q' hq' => ?_) hnd'.2 (fun a b ha hb => hd a b (by simp [ha]) (by simp [hb]))
    obtain ⟨g1, g2, g3, g4, g5⟩ := hq q' (by simp [hq'])
    refine ⟨g1, g2, g3, g4, fun x hx => ?_⟩
    rcases List.mem_cons.1 hx with rfl | hx
    · exact hd q q' (by simp) (by simp [hq']) (fun e => hnd'.1 (List.mem_map.2 ⟨q', hq', e.symm⟩))
    · exact g5 x hx
theorem nd_eq {q q' : Nat × TypeId × List Value} : ∀ {fl : List (Nat × TypeId × List Value)}, (fl.map (·.1)).Nodup → q ∈ fl → q' ∈ fl → q.1 = q'.1 → q' = q
  | [], _, h, _, _ => by cases h
  | a :: r, hn, h1, h2, he => by
    have hn' := List.nodup_cons.1 hn
    rcases List.mem_cons.1 h1 with e1 | h1 <;> rcases List.mem_cons.1 h2 with e2 | h2
    · rw [e1, e2]
    · exact absurd (List.mem_map.2 ⟨q', h2, by rw [← he, e1]⟩) hn'.1
    · exact absurd (List.mem_map.2 ⟨q, h1, by rw [he, e2]⟩) hn'.1
    · exact nd_eq hn'.2 h1 h2 he
theorem kn_flFr {l : List Oper} {bs : Nat → Nat} {a : Act} : ∀ {fl : List (Nat × TypeId × List Value)} {f : Fr}, Kn n f a → (∀ q, q ∈ fl → a.tmps.getD (dstOf l q.1) undef = .pointer (some ⟨bs q.1, 0, none⟩)) → Kn n (flFr l bs fl f) a
  | [], f, h, _ => h
  | q :: r, f, h, hq => by
    refine kn_flFr (fl := r) ?_ (fun q' hq' => hq q' (by simp [hq']))
    have := Kn.app (n := n) (g := [(dstOf l q.1, .pointer (some ⟨bs q.1, 0, none⟩))]) (f := f) (a := a) (fun p hp => by
      rw [List.mem_singleton] at hp; subst hp; exact hq q (by simp)) h
    exact this
def FlOk (P : Program) (l : List Oper) (q : Nat × TypeId × List Value) : Prop := ∃ d ty pos aft s by_, l[q.1]? = some ⟨some d, .alloc q.2.1, ty, pos, aft, none⟩ ∧ Ty P q.2.1 q.2.2 s by_
def setB (bs : Nat → Nat) (i b : Nat) : Nat → Nat := fun j => bif Nat.beq j i then b else bs j
theorem setB_same (bs : Nat → Nat) (i b : Nat) : setB bs i b i = b := by simp [setB]
theorem setB_other (bs : Nat → Nat) {i j : Nat} (b : Nat) (h : j ≠ i) : setB bs i b j = bs j := by
  unfold setB
  cases hb : Nat.beq j i with
  | false => rfl
  | true => exact absurd (Nat.eq_of_beq_eq_true hb) h
theorem tw_planA {id : Nat} {l : List Oper} (p : Nat) (plan : List Nat) (cs : List Nat) (T : List Nat) (fl : List (Nat × TypeId × List Value)) (hm : P.follows .mixedOrders = true) (f0 : Fr) (hf : Fr.sub f0 f) (hok : planOkA n l p plan (fun i => cs.contains i) (fl.map (·.1)) = true) (hnd : (fl.map (·.1)).Nodup) (hcs : cs.all (fun i => plan.contains i) = true) (hfl : ∀ q, q ∈ fl → FlOk P l q) (hT : ∀ x, x ∈ T → x < w.heap.size) (hfree0 : freeOk (l.take p) f0 = true)
    (h : ∀ w1, Keep [] w w1 → PA P n l p T (fun x => x < w.heap.size ∨ fl = []) (fun i => cs.contains i) (fun f' w' => ∀ w2, Keep [] w' w2 → FinA P fin n k l p w.heap.size cs f' fl [] f' w2) plan f0 w1) :
    TW P fin n (.c (.region id l.toArray true) :: k) f w := by
  intro a ha
  simp only [KQ]
  have ha0 := ha.sub hf
  simp only [planOkA, Bool.and_eq_true] at hok
  obtain ⟨⟨⟨⟨⟨hdr, ht⟩, hall⟩, hcov⟩, heag⟩, hfla⟩ := hok
  have hfl1 : ∀ q, q ∈ fl → q.1 < p ∧ q.1 ∉ plan := by
    intro q hq
    have := List.all_eq_true.1 hfla q.1 (List.mem_map.2 ⟨q, hq, rfl⟩)
    simp only [Bool.and_eq_true, Bool.not_eq_true'] at this
    exact ⟨blt_lt this.1, by simpa using this.2⟩
  have hcsp : ∀ j, j ∈ cs → j ∈ plan := by
    intro j hj
    have := List.all_eq_true.1 hcs j hj
    simpa using this
  have hpl : p ≤ l.length := by simp only [tailOk2, Bool.and_eq_true] at ht; exact Nat.le_of_ble_eq_true ht.1.1
  have hplan : ∀ j, j ∈ plan → j < p ∧ (hasDst l j = true ∨ cs.contains j = true) := by
    intro j hj
    have := List.all_eq_true.1 hall j hj
    simp only [Bool.and_eq_true, Bool.or_eq_true] at this
    exact ⟨blt_lt this.1, this.2⟩
  have hmem : ∀ j, j < p → j ∈ plan ∨ ∃ q, q ∈ fl ∧ q.1 = j := by
    intro j hj
    have := List.all_eq_true.1 hcov j (List.mem_range.2 hj)
    simp only [Bool.or_eq_true, List.contains_iff_mem, List.mem_map] at this
    exact this
  have hgrow : ∀ f' w1 w2, Keep [] w1 w2 → (∀ w3, Keep [] w1 w3 → FinA P fin n k l p w.heap.size cs f' fl [] f' w3) → (∀ w3, Keep [] w2 w3 → FinA P fin n k l p w.heap.size cs f' fl [] f' w3) := fun f' w1 w2 k1 h w3 k3 => h w3 (k1.trans k3)
  have hfree : ∀ i, i < p → hasDst l i = true → f0.get (dstOf l i) = none := by
    intro i hi hd
    have e1 : dstOf (l.take p) i = dstOf l i := by unfold dstOf; rw [List.getElem?_take, if_pos hi]
    have e2 : hasDst (l.take p) i = hasDst l i := by unfold hasDst; rw [List.getElem?_take, if_pos hi]
    rw [← e1]
    exact get_none_of_free (l := l.take p) (by rw [List.length_take]; omega) (by rw [e2]; exact hd) hfree0
  have hend : ∀ (listed : Array Bool) (a : Act) (w' : World), Kn n f0 a → (∀ i, i < p → listed.getD i false = true) → w.heap.size ≤ w'.heap.size →
      (∃ pre rest vs, ∃ bs : Nat → Nat, plan = pre ++ rest ∧ (∀ c r, rest = c :: r → cs.contains c = true) ∧ PA P n l p T (fun x => x < w.heap.size ∨ fl = []) (fun i => cs.contains i) (fun f' w' => ∀ w2, Keep [] w' w2 → FinA P fin n k l p w.heap.size cs f' fl [] f' w2) rest (dpF l vs pre.reverse ++ f0) w' ∧
        (∀ i, i ∈ pre → cs.contains i = false → RdOkA P n l T f0 pre vs w' i) ∧ (∀ i, i ∈ pre → cs.contains i = true → listed.getD i false = true) ∧ (∀ i, listed.getD i false = true → (∃ q, q ∈ fl ∧ q.1 = i) ∨ i ∈ pre ∧ (hasDst l i = true → a.tmps.getD (dstOf l i) undef = vs i)) ∧
        (∀ q, q ∈ fl → listed.getD q.1 false = true → a.tmps.getD (dstOf l q.1) undef = .pointer (some ⟨bs q.1, 0, none⟩) ∧ w.heap.size ≤ bs q.1 ∧ bs q.1 < w'.heap.size ∧ Bk w' (bs q.1) q.2.1 q.2.2 ∧ ∀ j, j ∈ pre → cs.contains j = true → ∀ x, x ∈ cblk (vs j) → x ≠ bs q.1) ∧
        (∀ j, j ∈ pre → cs.contains j = true → ∀ x, x ∈ cblk (vs j) → x < w'.heap.size) ∧
        (∀ q q', q ∈ fl → q' ∈ fl → listed.getD q.1 false = true → listed.getD q'.1 false = true → q.1 ≠ q'.1 → bs q.1 ≠ bs q'.1)) →
      wpList P l.toArray (KQ P fin k) (l.drop p) a w' := by
    intro listed a w' hk hlist hsz hst
    obtain ⟨pre, rest, vs, bs, h1, h2, h3, h4, h5, h6, h7, h8, h9⟩ := hst
    have hnf : ∀ c, c ∈ plan → ¬ ∃ q, q ∈ fl ∧ q.1 = c := fun c hc ⟨q, hq, he⟩ => (hfl1 q hq).2 (he ▸ hc)
    have hrest : rest = [] := by
      cases rest with
      | nil => rfl
      | cons c r =>
        exfalso
        have hcp : c ∈ plan := by rw [h1]; simp
        have hc := hplan c hcp
        rcases h6 c (hlist c hc.1) with h | h
        · exact hnf c hcp h
        · exact (eager_split (pre := pre) (h1 ▸ heag)).2 c h.1 (by simp)
    subst hrest
    have hF := h3
    unfold PA at hF
    have hpre : ∀ j, j ∈ pre → j ∈ plan := fun j hj => by rw [h1]; simp [hj]
    have hkF : Kn n (dpF l vs pre.reverse ++ f0) a := Kn.app (by
      intro q hq
      obtain ⟨j, hj, hjd, rfl⟩ := mem_dpF hq
      have hj' : j ∈ pre := by simpa using hj
      rcases h6 j (hlist j (hplan j (hpre j hj')).1) with h | h
      · exact absurd h (hnf j (hpre j hj'))
      · exact h.2 hjd) hk
    refine FinA.use (bs := bs) (hF w' (Keep.refl _ _)) (fun q hq => ?_) hnd (fun q q' hq hq' hne => h9 q q' hq hq' (hlist _ (hfl1 q hq).1) (hlist _ (hfl1 q' hq').1) hne) a (kn_flFr hkF (fun q hq => (h7 q hq (hlist _ (hfl1 q hq).1)).1))
    obtain ⟨_, g2, g3, g4, g5⟩ := h7 q hq (hlist _ (hfl1 q hq).1)
    refine ⟨g2, g3, g4, fun j hj hjd v hv x hx => ?_, fun x hx => by cases hx⟩
    have hjp := hcsp j hj
    rcases get_dpF hv with ⟨j', hj', e0, e1, e2⟩ | e1
    · have hj2 : j' ∈ pre := by simpa using hj'
      have : j' = j := draw_distinct hdr (Nat.lt_of_lt_of_le (hplan j' (hpre j' hj2)).1 hpl) (Nat.lt_of_lt_of_le (hplan j hjp).1 hpl) e0 hjd e1
      subst this; subst e2
      exact g5 j' hj2 (by simpa using hj) x hx
    · rw [hfree j (hplan j hjp).1 hjd] at e1; cases e1
  refine wp_region_any hm ?_
  have key : ∀ (fuel : Nat) (listed : Array Bool) (a : Act) (w' : World), listed.size = l.length → left l.length listed ≤ fuel → Kn n f0 a → (∀ i, p ≤ i → i < l.length → listed.getD i false = false) → (∀ i, listed.getD i false = true → i < p) →
      (∀ i j, listed.getD i false = true → depB l i j = true → listed.getD j false = true) → w.heap.size ≤ w'.heap.size →
      (∃ pre rest vs, ∃ bs : Nat → Nat, plan = pre ++ rest ∧ (∀ c r, rest = c :: r → cs.contains c = true) ∧ PA P n l p T (fun x => x < w.heap.size ∨ fl = []) (fun i => cs.contains i) (fun f' w' => ∀ w2, Keep [] w' w2 → FinA P fin n k l p w.heap.size cs f' fl [] f' w2) rest (dpF l vs pre.reverse ++ f0) w' ∧
        (∀ i, i ∈ pre → cs.contains i = false → RdOkA P n l T f0 pre vs w' i) ∧ (∀ i, i ∈ pre → cs.contains i = true → listed.getD i false = true) ∧ (∀ i, listed.getD i false = true → (∃ q, q ∈ fl ∧ q.1 = i) ∨ i ∈ pre ∧ (hasDst l i = true → a.tmps.getD (dstOf l i) undef = vs i)) ∧
        (∀ q, q ∈ fl → listed.getD q.1 false = true → a.tmps.getD (dstOf l q.1) undef = .pointer (some ⟨bs q.1, 0, none⟩) ∧ w.heap.size ≤ bs q.1 ∧ bs q.1 < w'.heap.size ∧ Bk w' (bs q.1) q.2.1 q.2.2 ∧ ∀ j, j ∈ pre → cs.contains j = true → ∀ x, x ∈ cblk (vs j) → x ≠ bs q.1) ∧
        (∀ j, j ∈ pre → cs.contains j = true → ∀ x, x ∈ cblk (vs j) → x < w'.heap.size) ∧
        (∀ q q', q ∈ fl → q' ∈ fl → listed.getD q.1 false = true → listed.getD q'.1 false = true → q.1 ≠ q'.1 → bs q.1 ≠ bs q'.1)) →
      wpAny P .any l.toArray (KQ P fin k) fuel listed a w' := by
    intro fuel
    induction fuel with
    | zero =>
      intro listed a w' hs hle hk hun hlp hcl hsz hst
      have hlist : ∀ i, i < l.length → listed.getD i false = true := by
        intro i hi
        cases hc : listed.getD i false with
        | true => rfl
        | false =>
          exfalso
          have := left_set hi hs (by rw [getD_lists hs hi true false]; exact hc)
          omega
      have hpe : p = l.length := by
        rcases Nat.lt_or_ge p l.length with h1 | h1
        · have := hun p (Nat.le_refl _) h1; rw [hlist p h1] at this; cases this
        · omega
      refine wpAny_tail2 hdr ht 0 p 0 listed a w' (by omega) hpl (Nat.le_refl _) (Nat.le_refl _) hs (fun i hi => by rw [hlist i hi]; simp; omega) ?_
      exact hend listed a w' hk (fun i hi => hlist i (by omega)) hsz hst
    | succ fuel ih =>
      intro listed a w' hs hle hk hun hlp hcl hsz hst
      by_cases hfull : ∀ i, i < p → listed.getD i false = true
      · refine wpAny_tail2 hdr ht (l.length - p) p (fuel + 1) listed a w' rfl hpl (Nat.le_refl _) ?_ hs (fun i hi => ?_) (hend listed a w' hk hfull hsz hst)
        · refine Nat.le_trans ?_ hle
          unfold left
          have e1 : l.length - p = ((List.range' p (l.length - p)).countP fun i => !listed.getD i true) := by
            rw [List.countP_eq_length.2 (fun i hi => ?_)]
            · simp
            · rw [List.mem_range'_1] at hi
              rw [getD_lists hs (by omega) true false, hun i (by omega) (by omega)]; rfl
          rw [e1]
          have e2 : List.range l.length = List.range p ++ List.range' p (l.length - p) := by
            have e3 := List.range'_append_1 (s := 0) (m := p) (n := l.length - p)
            rw [Nat.zero_add] at e3
            rw [List.range_eq_range', List.range_eq_range', e3]; congr 1; omega
          rw [e2, List.countP_append]; omega
        · by_cases hip : i < p
          · rw [hfull i hip]; simp [hip]
          · rw [hun i (by omega) hi]; simp [hip]
      · obtain ⟨pre, rest, vs, bs, h1, h2, h3, h4, h5, h6, h7, h8, h9⟩ := hst
        have hnf : ∀ c, c ∈ plan → ¬ ∃ q, q ∈ fl ∧ q.1 = c := fun c hc ⟨q, hq, he⟩ => (hfl1 q hq).2 (he ▸ hc)
        obtain ⟨q, hq⟩ := Classical.not_forall.1 hfull
        obtain ⟨hq1, hq2⟩ := Classical.not_imp.1 hq
        have hq2 : listed.getD q false = false := eq_false_of_ne_true hq2
        refine ⟨fun hr => (by
          have := all_listed hdr rfl hs hr q (by omega)
          rw [hq2] at this; cases this), fun i hi => ?_⟩
        obtain ⟨h0, o, ho, hedge⟩ := mem_ready.1 hi
        have ho' : l[i]? = some o := by simpa using ho
        have hlt : i < l.length := (List.getElem?_eq_some_iff.1 ho').1
        have hdepl : ∀ j, depB l i j = true → listed.getD j false = true := by
          intro j hj
          simp only [depB, ho'] at hj
          obtain ⟨e, he, h7⟩ := List.any_eq_true.1 hj
          simp only [Bool.and_eq_true, beq_iff_eq] at h7
          have := hedge e (Array.mem_toList_iff.1 he) h7.2
          rwa [h7.1] at this
        have hip : i < p := by
          rcases Nat.lt_or_ge i p with h7 | h7
          · exact h7
          · exfalso
            rcases Nat.lt_or_ge p i with h8 | h8
            · have := hdepl _ (tail2_next ht hlt h8)
              rw [hun (i - 1) (by omega) (by omega)] at this; cases this
            · have hpi : i = p := by omega
              have := tail2_all (S := fun j => listed.getD j false = true) ht (by omega) (fun m j hm hd => hm.elim (fun e => hdepl j (by rw [hpi, ← e]; exact hd)) (fun hl => hcl m j hl hd)) _ q hq1 rfl
              rw [hq2] at this; cases this
        have hil : listed.getD i false = false := by rw [getD_lists hs hlt false true]; exact h0
        have hidn : ∀ d, o.dst = some d → hasDst l i = true ∧ dstOf l i = d ∧ d < n := by
          intro d hd
          have hdd : dstOf l i = d := by simp [dstOf, ho', hd]
          refine ⟨by simp [hasDst, ho', hd], hdd, ?_⟩
          have h8 := List.all_eq_true.1 hdr i (List.mem_range.2 hlt)
          simp only [ho', Bool.and_eq_true] at h8
          rw [hdd] at h8
          exact blt_lt h8.1.1
        have hids : hasDst l i = true → ∃ d, o.dst = some d := by
          intro hid
          unfold hasDst at hid; rw [ho'] at hid
          cases hd : o.dst with
          | none => rw [Option.bind_some, hd] at hid; cases hid
          | some d => exact ⟨d, rfl⟩
        have hleft := left_set hlt hs h0
        have hun' : ∀ j, p ≤ j → j < l.length → (listed.setIfInBounds i true).getD j false = false := fun j h1 h2 => by rw [getD_set_ne false (by omega)]; exact hun j h1 h2
        have hlp' : ∀ j, (listed.setIfInBounds i true).getD j false = true → j < p := by
          intro j hj
          by_cases hij : i = j
          · subst hij; exact hip
          · rw [getD_set_ne false hij] at hj; exact hlp j hj
        have hcl' : ∀ m j, (listed.setIfInBounds i true).getD m false = true → depB l m j = true → (listed.setIfInBounds i true).getD j false = true := by
          intro m j hm hd
          have hj : listed.getD j false = true := by
            by_cases him : i = m
            · exact hdepl j (him ▸ hd)
            · rw [getD_set_ne false him] at hm; exact hcl m j hm hd
          by_cases hij : i = j
          · subst hij; rw [hil] at hj; cases hj
          · rw [getD_set_ne false hij]; exact hj
        have hput : ∀ v, hasDst l i = true → (a.put o.dst v).tmps.getD (dstOf l i) undef = v := by
          intro v hid
          obtain ⟨d, hod⟩ := hids hid
          obtain ⟨_, hdd, hdn⟩ := hidn d hod
          rw [hdd, hod]; simp [Act.put, Array.getD_eq_getD_getElem?, hk.size, hdn]
        have hputo : ∀ v j, j < p → hasDst l j = true → i ≠ j → (a.put o.dst v).tmps.getD (dstOf l j) undef = a.tmps.getD (dstOf l j) undef := by
          intro v j hj hdj hij
          cases hod : o.dst with
          | none => rfl
          | some d =>
            obtain ⟨hid, hdd, hdn⟩ := hidn d hod
            have hne : d ≠ dstOf l j := fun e => hij (draw_distinct hdr hlt (by omega) hid hdj (by rw [hdd, e]))
            simp only [Act.put, Array.getD_eq_getD_getElem?]; rw [Array.getElem?_setIfInBounds_ne hne]
        have hkput : ∀ v, Kn n f0 (a.put o.dst v) := by
          intro v
          cases hod : o.dst with
          | none => exact hk
          | some d =>
            obtain ⟨hid, hdd, hdn⟩ := hidn d hod
            exact hk.putOther (by rw [← hdd]; exact hfree i hip hid) v
        have hpre : ∀ j, j ∈ pre → j ∈ plan := fun j hj => by rw [h1]; simp [hj]
        have hpredep : ∀ j, depB l i j = true → j ∈ pre → hasDst l j = true → a.tmps.getD (dstOf l j) undef = vs j := fun j hj hjp hjd => (h6 j (hdepl j hj)).elim (fun h => absurd h (hnf j (hpre j hjp))) (fun h => h.2 hjd)
        have hfd : ∀ q, q ∈ fl → hasDst l q.1 = true := by
          intro q hq
          obtain ⟨d, ty, pos, aft, s, by_, hg, _⟩ := hfl q hq
          unfold hasDst; rw [hg]; rfl
        have step : ∀ f1, Kn n f1 a → ∀ R : Value → World → Prop, PStep P n l.toArray o f1 w' R → (∀ v w2, R v w2 → wpAny P .any l.toArray (KQ P fin k) fuel (listed.setIfInBounds i true) (a.put o.dst v) w2) → wpOp P l.toArray (KQ P fin k) i (wpAny P .any l.toArray (KQ P fin k) fuel (listed.setIfInBounds i true)) a w' := by
          intro f1 hkf R hp hn
          obtain ⟨p1, p2⟩ := hp a hkf (wpAny P .any l.toArray (KQ P fin k) fuel (listed.setIfInBounds i true)) (KQ P fin k) hn
          unfold wpOp
          rw [ho]
          simp only
          by_cases hw : Region.wanted o (yielded l.toArray a.tmps) = true
          · rw [if_pos hw]; exact .inl (p1 hw)
          · rw [if_neg hw]; exact p2 (eq_false_of_ne_true hw)
        rcases hmem i hip with hpl1 | ⟨q, hqf, hqi⟩
        · have hpm := hpl1
          rw [h1] at hpm
          have hifl : ∀ q, q ∈ fl → i ≠ q.1 := fun q hq e => hnf i hpl1 ⟨q, hq, e.symm⟩
          rcases List.mem_append.1 hpm with hpre1 | hrs
          · have hcb : cs.contains i = false := by
              cases hc : cs.contains i with
              | false => rfl
              | true => have := h5 i hpre1 hc; rw [hil] at this; cases this
            obtain ⟨o2, f1, g1, g2, g3⟩ := h4 i hpre1 hcb
            rw [ho'] at g1
            simp only [Option.some.injEq] at g1
            subst g1
            refine step f1 (kn_lkA hk g2 hpredep) _ (g3 w' (Keep.refl _ _)) ?_
            rintro v w2 ⟨rfl, rfl⟩
            refine ih _ _ _ (by simpa using hs) (by omega) (hkput _) hun' hlp' hcl' hsz ⟨pre, rest, vs, bs, h1, h2, h3, h4, fun j hj hc => ?_, fun j hj => ?_, fun q hq hlq => ?_, h8, fun q q' hq hq' hl1 hl2 => ?_⟩
            · by_cases hij : i = j
              · subst hij; rw [hcb] at hc; cases hc
              · rw [getD_set_ne false hij]; exact h5 j hj hc
            · by_cases hij : i = j
              · subst hij; exact .inr ⟨hpre1, hput _⟩
              · rw [getD_set_ne false hij] at hj
                rcases h6 j hj with h | ⟨m1, m2⟩
                · exact .inl h
                · have hpj := hplan j (hpre j m1)
                  exact .inr ⟨m1, fun hjd => by rw [hputo _ j hpj.1 hjd hij]; exact m2 hjd⟩
            · rw [getD_set_ne false (hifl q hq)] at hlq
              obtain ⟨m1, m2⟩ := h7 q hq hlq
              exact ⟨by rw [hputo _ q.1 (hfl1 q hq).1 (hfd q hq) (hifl q hq)]; exact m1, m2⟩
            · rw [getD_set_ne false (hifl q hq)] at hl1
              rw [getD_set_ne false (hifl q' hq')] at hl2
              exact h9 q q' hq hq' hl1 hl2
          · cases rest with
            | nil => cases hrs
            | cons c r =>
              have hcc := h2 c r rfl
              rw [h1] at heag
              obtain ⟨he1, he2⟩ := eager_split heag
              rcases List.mem_cons.1 hrs with hic | hir
              · subst hic
                have h30 := h3
                unfold PA at h30
                obtain ⟨o2, f1, g1, g2, g3, g4⟩ := h30
                rw [ho'] at g1
                simp only [Option.some.injEq] at g1
                subst g1
                rcases g4 with ⟨_, g4⟩ | ⟨g4, _⟩
                · have hlk := lkA_of (f0 := f0) hdr hpl (fun j hj => (hplan j (hpre j hj)).1) g2 g3
                  refine step f1 (kn_lkA hk hlk hpredep) _ (g4 w' (Keep.refl _ _)) ?_
                  rintro v w2 ⟨hkw, hcv, hpw⟩
                  have hni : i ∉ pre := fun hm => he2 i hm (by simp)
                  have hnr : i ∉ pre.reverse := by simpa using hni
                  have hmm : ∀ j, j ∈ pre → j ∈ pre ++ [i] ∧ setV vs i v j = vs j := fun j hj => ⟨by simp [hj], setV_other vs v (fun e => hni (e ▸ hj))⟩
                  obtain ⟨pre', rest', vs', k1, k2, k3, k4, k5, k6⟩ := absorbA (f0 := f0) (T := T) (O := (fun x => x < w.heap.size ∨ fl = [])) (cb := fun i => cs.contains i) hdr hpl r (pre ++ [i]) (setV vs i v) w2 (by rw [List.append_assoc, List.singleton_append]; exact heag) (by rw [List.append_assoc, List.singleton_append, ← h1]; exact hplan)
                    (by rw [List.reverse_append, List.reverse_singleton, List.singleton_append, dpF_cons, setV_same, dpF_setV hnr]; exact hpw)
                    (fun j hj hcj => by
                      rcases List.mem_append.1 hj with h | h
                      · exact (h4 j h hcj).mono h hmm hkw
                      · rw [List.mem_singleton] at h
                        subst h; rw [hcc] at hcj; cases hcj)
                  have hsame : ∀ j, j ∈ pre → j ∈ pre' ∧ vs' j = vs j := fun j hj => ⟨(k2 j (hmm j hj).1).1, ((k2 j (hmm j hj).1).2).trans (hmm j hj).2⟩
                  have hci := k2 i (by simp)
                  rw [setV_same] at hci
                  have hcall : ∀ j, j ∈ pre' → cs.contains j = true → j ∈ pre ∧ vs' j = vs j ∨ j = i := by
                    intro j hj hc
                    rcases k3 j hj with h | h
                    · rcases List.mem_append.1 h with h | h
                      · exact .inl ⟨h, (hsame j h).2⟩
                      · rw [List.mem_singleton] at h; exact .inr h
                    · rw [hc] at h; cases h
                  refine ih _ _ _ (by simpa using hs) (by omega) (hkput _) hun' hlp' hcl' (Nat.le_trans hsz hkw.size) ⟨pre', rest', vs', bs, by rw [← k1, h1]; simp, k4, k5, k6, fun j hj hc => ?_, fun j hj => ?_, fun q hq hlq => ?_, fun j hj hc x hx => ?_, fun q q' hq hq' hl1 hl2 => ?_⟩
                  · by_cases hij : i = j
                    · subst hij
                      rw [Array.getD_eq_getD_getElem?]; simp [hs, hlt]
                    · rw [getD_set_ne false hij]
                      rcases hcall j hj hc with h | h
                      · exact h5 j h.1 hc
                      · exact absurd h.symm hij
                  · by_cases hij : i = j
                    · subst hij; exact .inr ⟨hci.1, fun hid => by rw [hput _ hid, hci.2]⟩
                    · rw [getD_set_ne false hij] at hj
                      rcases h6 j hj with h | ⟨m1, m2⟩
                      · exact .inl h
                      · have hpj := hplan j (hpre j m1)
                        exact .inr ⟨(hsame j m1).1, fun hjd => by rw [hputo _ j hpj.1 hjd hij, (hsame j m1).2]; exact m2 hjd⟩
                  · rw [getD_set_ne false (hifl q hq)] at hlq
                    obtain ⟨m1, m2, m3, m4, m5⟩ := h7 q hq hlq
                    refine ⟨by rw [hputo _ q.1 (hfl1 q hq).1 (hfd q hq) (hifl q hq)]; exact m1, m2, Nat.lt_of_lt_of_le m3 hkw.size, m4.keep hkw (fun hm => by have := hT _ hm; omega), fun j hj hc x hx => ?_⟩
                    rcases hcall j hj hc with ⟨h, e⟩ | h
                    · rw [e] at hx; exact m5 j h hc x hx
                    · subst h
                      rw [hci.2] at hx
                      have := (hcv x hx).1
                      intro e
                      rcases this with (h3 | h3) | h3
                      · omega
                      · rw [h3] at hq; cases hq
                      · omega
                  · rcases hcall j hj hc with ⟨h, e⟩ | h
                    · rw [e] at hx; exact Nat.lt_of_lt_of_le (h8 j h hc x hx) hkw.size
                    · subst h
                      rw [hci.2] at hx
                      exact (hcv x hx).2
                  · rw [getD_set_ne false (hifl q hq)] at hl1
                    rw [getD_set_ne false (hifl q' hq')] at hl2
                    exact h9 q q' hq hq' hl1 hl2
                · rw [hcc] at g4; cases g4
              · exfalso
                simp only [eager, Bool.and_eq_true] at he1
                have h7 := he1.1.2
                rw [hcc, Bool.not_true, Bool.false_or] at h7
                have h8 := List.all_eq_true.1 h7 i hir
                obtain ⟨j, hj, hdj⟩ := List.any_eq_true.1 h8
                have hjp : j ∈ plan := by rw [h1]; exact List.mem_append_right _ hj
                rcases h6 j (hdepl j hdj) with h | h
                · exact hnf j hjp h
                · exact he2 j h.1 hj
        · subst hqi
          obtain ⟨d', ty, pos, aft, s, by_, hg, hTy⟩ := hfl q hqf
          rw [hg] at ho'
          simp only [Option.some.injEq] at ho'
          have hnp : q.1 ∉ pre := fun hm => (hfl1 q hqf).2 (hpre _ hm)
          refine step [] ⟨hk.size, hk.defers, fun t v h => by cases h⟩ (fun v' w2 => ∃ b, v' = .pointer (some ⟨b, 0, none⟩) ∧ b = w'.heap.size ∧ Bk w2 b q.2.1 q.2.2 ∧ Keep [] w' w2 ∧ w2.heap.size = w'.heap.size + 1) ?_ ?_
          · subst ho'
            intro a1 ha1 K Q hK
            refine ⟨fun _ => d_alloc (n := n) (f := []) hTy a1 ha1 _ _ _ _ K Q hK, fun h => by simp [Region.wanted] at h⟩
          · rintro v w2 ⟨b, rfl, rfl, hb, hkb, hsb⟩
            have hqne : ∀ q', q' ∈ fl → q'.1 ≠ q.1 → q.1 ≠ q'.1 := fun q' _ h e => h e.symm
            refine ih _ _ _ (by simpa using hs) (by omega) (hkput _) hun' hlp' hcl' (by omega) ⟨pre, rest, vs, setB bs q.1 w'.heap.size, h1, h2, PA.grow hgrow _ _ _ _ hkb h3, fun j hj hc => (h4 j hj hc).mono hj (fun j hj => ⟨hj, rfl⟩) hkb.weak, fun j hj hc => ?_, fun j hj => ?_, fun q' hq' hlq => ?_, fun j hj hc x hx => by have := h8 j hj hc x hx; omega, fun q1 q2 hq1 hq2 hl1 hl2 hne => ?_⟩
            · rw [getD_set_ne false (fun e => hnp (by rw [e]; exact hj))]; exact h5 j hj hc
            · by_cases hij : q.1 = j
              · exact .inl ⟨q, hqf, hij⟩
              · rw [getD_set_ne false hij] at hj
                rcases h6 j hj with h | ⟨m1, m2⟩
                · exact .inl h
                · have hpj := hplan j (hpre j m1)
                  exact .inr ⟨m1, fun hjd => by rw [hputo _ j hpj.1 hjd hij]; exact m2 hjd⟩
            · by_cases hqq : q.1 = q'.1
              · have hqe : q' = q := nd_eq hnd hqf hq' hqq
                subst hqe
                refine ⟨by rw [hput _ (hfd q' hqf), setB_same], by rw [setB_same]; omega, by rw [setB_same]; omega, by rw [setB_same]; exact hb, fun j hj hc x hx => ?_⟩
                rw [setB_same]
                have := h8 j hj hc x hx
                omega
              · rw [getD_set_ne false hqq] at hlq
                obtain ⟨m1, m2, m3, m4, m5⟩ := h7 q' hq' hlq
                rw [setB_other bs _ (Ne.symm hqq)]
                exact ⟨by rw [hputo _ q'.1 (hfl1 q' hq').1 (hfd q' hq') hqq]; exact m1, m2, by omega, m4.keep0 hkb, m5⟩
            · by_cases e1 : q.1 = q1.1
              · have e2 : q.1 ≠ q2.1 := fun e => hne (e1.symm.trans e)
                rw [getD_set_ne false e2] at hl2
                rw [← e1, setB_same, setB_other bs _ (Ne.symm e2)]
                have := (h7 q2 hq2 hl2).2.2.1
                omega
              · rw [getD_set_ne false e1] at hl1
                rw [setB_other bs _ (Ne.symm e1)]
                by_cases e2 : q.1 = q2.1
                · rw [← e2, setB_same]
                  have := (h7 q1 hq1 hl1).2.2.1
                  omega
                · rw [getD_set_ne false e2] at hl2
                  rw [setB_other bs _ (Ne.symm e2)]
                  exact h9 q1 q2 hq1 hq2 hl1 hl2 hne
  obtain ⟨pre', rest', vs', k1, k2, k3, k4, k5, k6⟩ := absorbA (f0 := f0) (T := T) (O := (fun x => x < w.heap.size ∨ fl = [])) (cb := fun i => cs.contains i) hdr hpl plan [] (fun _ => undef) _ heag hplan (h _ (keep_drew w)) (fun i hi => by cases hi)
  have hemp : ∀ i, ¬ (Array.replicate l.toArray.size false).getD i false = true := by
    intro i hi
    rw [Array.getD_eq_getD_getElem?] at hi
    rcases Nat.lt_or_ge i l.toArray.size with h' | h'
    · rw [Array.getElem?_eq_getElem (by simpa using h')] at hi; simp at hi
    · rw [Array.getElem?_eq_none (by simpa using h')] at hi; simp at hi
  refine key _ _ a _ (by simp) ?_ ha0 ?_ (fun i hi => absurd hi (hemp i)) (fun i _ hi => absurd hi (hemp i)) (Nat.le_refl _) ⟨pre', rest', vs', fun _ => 0, k1, k4, k5, k6, fun i hi hc => ?_, fun i hi => absurd hi (hemp i), fun q _ hq => absurd hq (hemp _), fun j hj hc => ?_, fun q q' _ _ hq => absurd hq (hemp _)⟩
  · unfold left
    have := List.countP_le_length (p := fun i => !(Array.replicate l.toArray.size false).getD i true) (l := List.range l.length)
    simpa using this
  · intro i _ hi
    rw [Array.getD_eq_getD_getElem?, Array.getElem?_eq_getElem (by simpa using hi)]; simp
  · rcases k3 i hi with h | h
    · cases h
    · rw [hc] at h; cases h
  · rcases k3 j hj with h | h
    · cases h
    · rw [hc] at h; cases h
end
end Go.Eng
set_option linter.unusedVariables false
set_option linter.unusedSimpArgs false
namespace Go.Eng
open Go Go.IntWalk
section
variable {P : Program} {n : Nat} {f : Fr} {w : World} {ty : TypeId} {fin : Exit → Act → World → Prop} {k : List KI} {l : List Oper} {p s0 : Nat} {O : Nat → Prop} {T cs r : List Nat} {Fin : Fr → World → Prop} {i : Nat}
theorem pa_nil {fl : List (Nat × TypeId × List Value)} (h : ∀ w2, Keep [] w w2 → FinA P fin n k l p s0 cs f fl [] f w2) : PA P n l p T O (fun i => cs.contains i) (fun f' w' => ∀ w2, Keep [] w' w2 → FinA P fin n k l p s0 cs f' fl [] f' w2) [] f w := by unfold PA; exact h
theorem fina_nil {fc : Fr} {seen : List Nat} (h : OW P fin n k l.toArray (l.drop p) f w) : FinA P fin n k l p s0 cs fc [] seen f w := h
theorem frPut_at {d : Nat} {op : Op} {pos : String} {aft : Array Edge} {g : Option (Nat × Bool)} {v : Value} {f : Fr} (ho : l[i]? = some ⟨some d, op, ty, pos, aft, g⟩) : frPut l i v f = (d, v) :: f := by
  unfold frPut hasDst; rw [ho, dstOf_at ho]; rfl
theorem pa_g (f1 : Fr) {op : Op} {d : Nat} {pos : String} {aft : Array Edge} {v : Value} (ho : l[i]? = some ⟨some d, op, ty, pos, aft, none⟩) (hc : cs.contains i = false) (hs : Fr.sub f1 f) (hk : slotsOk l p i f1 = true)
    (hr : ∀ w', Keep T w w' → Gives P n f1 w' op ty v w') (h : PA P n l p T O (fun i => cs.contains i) Fin r ((d, v) :: f) w) : PA P n l p T O (fun i => cs.contains i) Fin (i :: r) f w := by
  unfold PA
  exact ⟨_, f1, ho, hs, hk, .inr ⟨hc, v, fun w' hw => pstep_g (hr w' hw), by rw [frPut_at ho]; exact h⟩⟩
theorem pa_d (f1 : Fr) {op : Op} {d : Nat} {pos : String} {aft : Array Edge} (ho : l[i]? = some ⟨some d, op, ty, pos, aft, none⟩) (hc : cs.contains i = true) (hs : Fr.sub f1 f) (hk : slotsOk l p i f1 = true)
    (hr : ∀ w1, Keep [] w w1 → Does P n f1 w1 op ty (fun v w' => Keep T w1 w' ∧ (∀ x, x ∈ cblk v → (O x ∨ w1.heap.size ≤ x) ∧ x < w'.heap.size) ∧ PA P n l p T O (fun i => cs.contains i) Fin r ((d, v) :: f) w')) : PA P n l p T O (fun i => cs.contains i) Fin (i :: r) f w := by
  unfold PA
  refine ⟨_, f1, ho, hs, hk, .inl ⟨hc, fun w1 k1 a ha K Q hK => ⟨fun _ => ?_, fun h => by simp [Region.wanted] at h⟩⟩⟩
  exact hr w1 k1 a ha _ _ _ _ _ _ (fun v w' hv => hK _ _ ⟨hv.1, hv.2.1, by rw [frPut_at ho]; exact hv.2.2⟩)
end
end Go.Eng
set_option linter.unusedVariables false
set_option linter.unusedSimpArgs false
namespace Go.Eng
open Go Go.IntWalk
section
variable {P : Program} {n : Nat} {f : Fr} {w : World} {ty : TypeId} {fin : Exit → Act → World → Prop} {k : List KI}
section
variable {l : List Oper} {p s0 i : Nat} {O : Nat → Prop} {T cs r : List Nat} {Fin : Fr → World → Prop}
end
end
end Go.Eng
set_option linter.unusedVariables false
set_option linter.unusedSimpArgs false
namespace Go.Eng
open Go Go.IntWalk
section
variable {P : Program} {fin : Exit → Act → World → Prop} {n : Nat} {k : List KI} {f : Fr} {w : World} {ty : TypeId}
theorem grdT {ops : Array Oper} {j d : Nat} {oj : Oper} {b want : Bool} (hj : ops[j]? = some oj) (hd : oj.dst = some d) (hf : f.get d = some (.bool b)) (hb : b = want) : Grd n ops f j want true := grd1 hj hd hf (by subst hb; cases b <;> rfl)
theorem ow_dy {ops : Array Oper} {l : List Oper} {op : Op} {d : Nat} {pos : String} {aft : Array Edge} {j : Nat} {want : Bool} {R : Value → World → Prop} (hG : Grd n ops f j want true) (hr : Does P n f w op ty R) (hd : Nat.blt d n = true)
    (h : ∀ v w', R v w' → OW P fin n k ops l ((d, v) :: f) w') : OW P fin n k ops (⟨some d, op, ty, pos, aft, some (j, want)⟩ :: l) f w := by
  intro a ha
  refine wpList_step fun K hK => ?_
  have hwt : Region.wanted ⟨some d, op, ty, pos, aft, some (j, want)⟩ (yielded ops a.tmps) = true := hG a ha
  rw [hwt, if_pos rfl]
  exact hr a ha _ _ _ _ _ _ (fun v w' hv => hK _ _ (h v w' hv _ (ha.put (blt_lt hd) v)))
section
variable {l : List Oper} {p s0 i : Nat} {O : Nat → Prop} {T cs r : List Nat} {Fin : Fr → World → Prop}
theorem pa_gt (f1 : Fr) {op : Op} {d : Nat} {pos : String} {aft : Array Edge} {j : Nat} {want : Bool} {v : Value} (ho : l[i]? = some ⟨some d, op, ty, pos, aft, some (j, want)⟩) (hc : cs.contains i = false) (hs : Fr.sub f1 f) (hk : slotsOk l p i f1 = true)
    (hG : Grd n l.toArray f1 j want true) (hr : ∀ w', Keep T w w' → Gives P n f1 w' op ty v w') (h : PA P n l p T O (fun i => cs.contains i) Fin r ((d, v) :: f) w) : PA P n l p T O (fun i => cs.contains i) Fin (i :: r) f w := by
  unfold PA
  refine ⟨_, f1, ho, hs, hk, .inr ⟨hc, v, fun w' hw a ha K Q hK => ?_, by rw [frPut_at ho]; exact h⟩⟩
  have hwt : Region.wanted ⟨some d, op, ty, pos, aft, some (j, want)⟩ (yielded l.toArray a.tmps) = true := hG a ha
  rw [hwt]
  refine ⟨fun _ => ?_, fun hcf => by cases hcf⟩
  unfold Oper.wp
  rw [hr w' hw a ha]
  exact hK _ _ ⟨rfl, rfl⟩
end
theorem g_pickT {x y z : Operand} {b : Bool} {v : Value} (hx : f.ev x = some (.bool b)) (hb : b = true) (hy : f.ev y = some v) : Gives P n f w (.pick x y z) ty v w := by
  subst hb
  intro a ha dst pos aft g
  simp [execOp, ha.ev hx, ha.ev hy, asBool]
theorem g_pickF {x y z : Operand} {b : Bool} {v : Value} (hx : f.ev x = some (.bool b)) (hb : b = false) (hz : f.ev z = some v) : Gives P n f w (.pick x y z) ty v w := by
  subst hb
  intro a ha dst pos aft g
  simp [execOp, ha.ev hx, ha.ev hz, asBool]
theorem Rd.cblk {w : World} {s m : Nat} {v : Value} {cs : List Value} (h : Rd w s v m cs) : Eng.cblk v = vblk v := by
  obtain ⟨A, c, rfl, _⟩ := h
  cases A <;> rfl
theorem g_faE {x : Operand} {T : TypeId} {fs : Array Field} {i : Nat} {fd : Field} {b o : Nat} (o' : Nat) {zs : List Value} {s by_ : Nat} (hT : P.underlying T = some (.struct fs)) (hf : fs[i]? = some fd) (hs : Ty P fd.type zs s by_) (h0 : s ≠ 0)
    (hx : f.ev x = some (.pointer (some ⟨b, o, none⟩))) (ho : o + fd.offset = o') : Gives P n f w (.fieldAddr T x i) ty (.pointer (some ⟨b, o', none⟩)) w := by subst ho; exact g_fa hT hf hs h0 hx
end
end Go.Eng
set_option linter.unusedVariables false
set_option linter.unusedSimpArgs false
namespace Go.Eng
open Go Go.IntWalk
section
variable {P : Program} {n : Nat}
end
section
variable {P : Program} {n : Nat} {fin : Exit → Act → World → Prop} {k : List KI} {f : Fr} {w : World}
def FinG (P : Program) (n : Nat) (l : List Oper) (p s0 : Nat) (cs : List Nat) (fc : Fr) (G : Fr → World → Prop) : List (Nat × TypeId × List Value) → List Nat → Fr → World → Prop
  | [], _, f, w => G f w
  | q :: r, seen, f, w => ∀ b, s0 ≤ b → b < w.heap.size → Bk w b q.2.1 q.2.2 → (∀ x, x ∈ seen → x ≠ b) → (∀ j, j ∈ cs → hasDst l j = true → ∀ v, fc.get (dstOf l j) = some v → ∀ x, x ∈ cblk v → x ≠ b) →
    FinG P n l p s0 cs fc G r (b :: seen) ((dstOf l q.1, .pointer (some ⟨b, 0, none⟩)) :: f) w
theorem FinG.use {l : List Oper} {p s0 : Nat} {cs : List Nat} {fc : Fr} {G : Fr → World → Prop} {bs : Nat → Nat} : ∀ {fl : List (Nat × TypeId × List Value)} {seen : List Nat} {f : Fr} {w : World}, FinG P n l p s0 cs fc G fl seen f w →
    (∀ q, q ∈ fl → s0 ≤ bs q.1 ∧ bs q.1 < w.heap.size ∧ Bk w (bs q.1) q.2.1 q.2.2 ∧ (∀ j, j ∈ cs → hasDst l j = true → ∀ v, fc.get (dstOf l j) = some v → ∀ x, x ∈ cblk v → x ≠ bs q.1) ∧ (∀ x, x ∈ seen → x ≠ bs q.1)) →
    (fl.map (·.1)).Nodup → (∀ q q', q ∈ fl → q' ∈ fl → q.1 ≠ q'.1 → bs q.1 ≠ bs q'.1) → G (flFr l bs fl f) w
  | [], seen, f, w, h, _, _, _ => h
  | q :: r, seen, f, w, h, hq, hnd, hd => by
    obtain ⟨h1, h2, h3, h4, h5⟩ := hq q (by simp)
    have hnd' := List.nodup_cons.1 hnd
    refine FinG.use (fl := r) (f := (dstOf l q.1, .pointer (some ⟨bs q.1, 0, none⟩)) :: f) (h (bs q.1) h1 h2 h3 h5 h4) (fun q' hq' => ?_) hnd'.2 (fun a b ha hb => hd a b (by simp [ha]) (by simp [hb]))
    obtain ⟨g1, g2, g3, g4, g5⟩ := hq q' (by simp [hq'])
    refine ⟨g1, g2, g3, g4, fun x hx => ?_⟩
    rcases List.mem_cons.1 hx with rfl | hx
    · exact hd q q' (by simp) (by simp [hq']) (fun e => hnd'.1 (List.mem_map.2 ⟨q', hq', e.symm⟩))
    · exact g5 x hx
end
end Go.Eng
set_option linter.unusedVariables false
set_option linter.unusedSimpArgs false
namespace Go.Eng
open Go Go.IntWalk
section
variable {α : Type}
theorem flat_drop {s : Nat} : ∀ {css : List (List Value)} {i : Nat} {cs : List Value}, (∀ c ∈ css, c.length = s) → css[i]? = some cs → (css.flatten.drop (i * s)).take s = cs
  | [], i, cs, _, h => by simp at h
  | c :: r, 0, cs, hl, h => by
    simp at h; subst h
    have := hl c (by simp)
    simp only [Nat.zero_mul, List.drop_zero, List.flatten_cons]
    rw [List.take_append_of_le_length (by omega), ← this, List.take_length]
  | c :: r, i + 1, cs, hl, h => by
    simp at h
    have h1 := hl c (by simp)
    have ih := flat_drop (s := s) (fun c hc => hl c (by simp [hc])) h
    rw [List.flatten_cons, Nat.add_mul, Nat.one_mul, Nat.add_comm, ← List.drop_drop, List.drop_left' h1]
    exact ih
def Els (s : Nat) (E : List Value → α → Prop) (css : List (List Value)) (xs : List α) : Prop := css.length = xs.length ∧ (∀ c ∈ css, c.length = s) ∧ ∀ (i : Nat) cs x, css[i]? = some cs → xs[i]? = some x → E cs x
theorem Els.mono {s : Nat} {E E' : List Value → α → Prop} {css : List (List Value)} {xs : List α} (h : Els s E css xs) (hm : ∀ cs x, E cs x → E' cs x) : Els s E' css xs := ⟨h.1, h.2.1, fun i cs x h1 h2 => hm _ _ (h.2.2 i cs x h1 h2)⟩
theorem els_nil (s : Nat) (E : List Value → α → Prop) : Els s E [] [] := ⟨rfl, (fun c hc => by cases hc), (fun i cs x h _ => by simp at h)⟩
theorem Els.snoc {s : Nat} {E : List Value → α → Prop} {css : List (List Value)} {xs : List α} (h : Els s E css xs) {cs : List Value} {x : α} (hl : cs.length = s) (he : E cs x) : Els s E (css ++ [cs]) (xs ++ [x]) := by
  obtain ⟨h1, h2, h3⟩ := h
  refine ⟨by simp [h1], fun c hc => ?_, fun i c y hc hy => ?_⟩
  · rcases List.mem_append.1 hc with h | h
    · exact h2 c h
    · rw [List.mem_singleton] at h; subst h; exact hl
  · rcases Nat.lt_trichotomy i css.length with hi | hi | hi
    · rw [List.getElem?_append_left hi] at hc
      rw [List.getElem?_append_left (by omega)] at hy
      exact h3 i c y hc hy
    · rw [List.getElem?_append_right (by omega), show i - css.length = 0 from by omega] at hc
      rw [List.getElem?_append_right (by omega), show i - xs.length = 0 from by omega] at hy
      simp at hc hy; subst hc hy; exact he
    · rw [List.getElem?_eq_none (by simp; omega)] at hc; cases hc
def RdE (w : World) (s : Nat) (E : List Value → α → Prop) (v : Value) (xs : List α) : Prop := ∃ css, Els s E css xs ∧ Rd w s v xs.length css.flatten
def OwnE (w : World) (lo : Nat) (T : TypeId) (s : Nat) (E : List Value → α → Prop) (v : Value) (xs : List α) : Prop := ∃ css, Els s E css xs ∧ Own w lo T s v xs.length css.flatten
theorem OwnE.rd {w : World} {lo s : Nat} {T : TypeId} {E : List Value → α → Prop} {v : Value} {xs : List α} (h : OwnE w lo T s E v xs) : RdE w s E v xs := by obtain ⟨css, h1, h2⟩ := h; exact ⟨css, h1, h2.rd⟩
theorem OwnE.blk {w : World} {lo s : Nat} {T : TypeId} {E : List Value → α → Prop} {v : Value} {xs : List α} (h : OwnE w lo T s E v xs) : ∀ x, x ∈ vblk v → lo ≤ x ∧ x < w.heap.size := by obtain ⟨css, h1, h2⟩ := h; exact h2.blk
theorem OwnE.mono {w : World} {lo s : Nat} {T : TypeId} {E E' : List Value → α → Prop} {v : Value} {xs : List α} (h : OwnE w lo T s E v xs) (hm : ∀ cs x, E cs x → E' cs x) : OwnE w lo T s E' v xs := by obtain ⟨css, h1, h2⟩ := h; exact ⟨css, h1.mono hm, h2⟩
theorem RdE.mono {w : World} {s : Nat} {E E' : List Value → α → Prop} {v : Value} {xs : List α} (h : RdE w s E v xs) (hm : ∀ cs x, E cs x → E' cs x) : RdE w s E' v xs := by obtain ⟨css, h1, h2⟩ := h; exact ⟨css, h1.mono hm, h2⟩
theorem OwnE.lo {w : World} {lo lo' s : Nat} {T : TypeId} {E : List Value → α → Prop} {v : Value} {xs : List α} (h : OwnE w lo T s E v xs) (hl : lo' ≤ lo) : OwnE w lo' T s E v xs := by obtain ⟨css, h1, h2⟩ := h; exact ⟨css, h1, h2.lo hl⟩
theorem OwnE.keep {S : List Nat} {w w' : World} {lo s : Nat} {T : TypeId} {E : List Value → α → Prop} {v : Value} {xs : List α} (h : OwnE w lo T s E v xs) (k : Keep S w w') (hn : ∀ x, x ∈ vblk v → x ∉ S) : OwnE w' lo T s E v xs := by obtain ⟨css, h1, h2⟩ := h; exact ⟨css, h1, h2.keep k hn⟩
theorem RdE.keep {S : List Nat} {w w' : World} {s : Nat} {E : List Value → α → Prop} {v : Value} {xs : List α} (h : RdE w s E v xs) (k : Keep S w w') (hn : ∀ x, x ∈ vblk v → x ∉ S) : RdE w' s E v xs := by obtain ⟨css, h1, h2⟩ := h; exact ⟨css, h1, h2.keep k hn⟩
theorem ownE_nil (w : World) (lo : Nat) (T : TypeId) (s : Nat) (E : List Value → α → Prop) : OwnE w lo T s E (.slice none 0 0) [] := ⟨[], els_nil s E, own_nil _ _ _ _⟩
theorem RdE.get {w : World} {s : Nat} {E : List Value → α → Prop} {v : Value} {xs : List α} (h : RdE w s E v xs) {i : Nat} (hi : i < xs.length) : ∃ cs0 cs x, Rd w s v xs.length cs0 ∧ xs[i]? = some x ∧ (cs0.drop (i * s)).take s = cs ∧ cs.length = s ∧ E cs x := by
  obtain ⟨css, ⟨h1, h2, h3⟩, h4⟩ := h
  have hc : css[i]? = some (css[i]'(by omega)) := List.getElem?_eq_getElem (by omega)
  exact ⟨_, _, xs[i], h4, List.getElem?_eq_getElem hi, flat_drop h2 hc, h2 _ (List.getElem_mem _), h3 i _ _ hc (List.getElem?_eq_getElem hi)⟩
theorem RdE.len {w : World} {s : Nat} {E : List Value → α → Prop} {v : Value} {xs : List α} (h : RdE w s E v xs) : ∃ cs0, Rd w s v xs.length cs0 := by obtain ⟨css, _, h⟩ := h; exact ⟨_, h⟩
end
end Go.Eng
set_option linter.unusedVariables false
set_option linter.unusedSimpArgs false
namespace Go.Byt
theorem be_succ (n : Int) (k : Nat) : be n (k + 1) = be (n / 256) k ++ [byteAt n 0] := by
  unfold be
  rw [List.range_succ, List.map_append]
  congr 1
  · apply List.map_congr_left
    intro j hj
    have hj : j < k := List.mem_range.1 hj
    unfold byteAt
    have e : (2 : Int) ^ (8 * (k + 1 - 1 - j)) = 256 * 2 ^ (8 * (k - 1 - j)) := by
      have : 8 * (k + 1 - 1 - j) = 8 + 8 * (k - 1 - j) := by omega
      rw [this, Int.pow_add]; rfl
    rw [e, ← Int.ediv_ediv_of_nonneg (by decide)]
  · simp
theorem num_be (k : Nat) : ∀ (n : Int), 0 ≤ n → n < 256 ^ k → num (be n k) = n := by
  induction k with
  | zero => intro n h0 h1; simp at h1; have : n = 0 := by omega
            subst this; rfl
  | succ k ih =>
    intro n h0 h1
    rw [Int.pow_succ] at h1
    rw [be_succ, num_snoc, ih (n / 256) (by omega) (by omega), byteAt_toNat]
    simp; omega
end Go.Byt
set_option linter.unusedVariables false
set_option linter.unusedSimpArgs false
namespace Go.Byt
theorem u8_ext {a b : UInt8} (h : (a.toNat : Int) = b.toNat) : a = b := UInt8.toNat_inj.1 (by omega)
theorem be_num (xs : List UInt8) : be (num xs) xs.length = xs := by
  have key : ∀ (n : Nat) (xs : List UInt8), xs.length = n → be (num xs) n = xs := by
    intro n
    induction n with
    | zero => intro xs h; have : xs = [] := List.eq_nil_of_length_eq_zero h
              subst this; rfl
    | succ n ih =>
      intro xs h
      have hne : xs ≠ [] := fun e => by subst e; simp at h
      obtain ⟨ys, y, rfl⟩ : ∃ ys y, xs = ys ++ [y] := ⟨xs.dropLast, xs.getLast hne, (List.dropLast_concat_getLast hne).symm⟩
      have hl : ys.length = n := by simpa using h
      have h2 := y.toNat_lt
      rw [be_succ, num_snoc, show (num ys * 256 + (y.toNat : Int)) / 256 = num ys by omega, ih ys hl]
      congr 2
      refine u8_ext ?_
      rw [byteAt_toNat]; simp; omega
  exact key _ xs rfl
theorem rLen_0 {x : UInt8} {r : List UInt8} (h : x.toNat < 64) : rLen (x :: r) 0 = ((x.toNat : Int), r, 0) := by
  have htop : top (x :: r) = 0 := by show x.toNat / 64 = 0; omega
  unfold rLen
  rw [htop, if_neg (by decide), if_neg (by decide), if_neg (by simp), if_neg (fun h => absurd h.1 (by decide))]
  have e : num ((x :: r).take (2 ^ 0)) = x.toNat := by show num [x] = _; simp [num]
  have e2 : (2 : Int) ^ (8 * 2 ^ 0 - 2) = 64 := rfl
  rw [e, e2, Int.emod_eq_of_lt (by omega) (by omega)]; rfl
theorem rLen_1 {x y : UInt8} {r : List UInt8} (h : x.toNat / 64 = 1) (hm : ((x.toNat : Int) * 256 + y.toNat) % 16384 / 64 ≠ 0) : rLen (x :: y :: r) 0 = (((x.toNat : Int) * 256 + y.toNat) % 16384, r, 0) := by
  have htop : top (x :: y :: r) = 1 := h
  unfold rLen
  have e : num ((x :: y :: r).take (2 ^ 1)) = (x.toNat : Int) * 256 + y.toNat := by show num [x, y] = _; simp [num]
  have e2 : (2 : Int) ^ (8 * 2 ^ 1 - 2) = 16384 := rfl
  have e3 : (2 : Int) ^ (4 * 2 ^ 1 - 2) = 64 := rfl
  rw [htop, if_neg (by decide), if_neg (by decide), if_neg (by simp), e, e2, e3, if_neg (fun h => hm h.2)]; rfl
theorem rLen_2 {x y z u : UInt8} {r : List UInt8} (h : x.toNat / 64 = 2) (hm : ((((x.toNat : Int) * 256 + y.toNat) * 256 + z.toNat) * 256 + u.toNat) % 1073741824 / 16384 ≠ 0) : rLen (x :: y :: z :: u :: r) 0 = (((((x.toNat : Int) * 256 + y.toNat) * 256 + z.toNat) * 256 + u.toNat) % 1073741824, r, 0) := by
  have htop : top (x :: y :: z :: u :: r) = 2 := h
  unfold rLen
  have e : num ((x :: y :: z :: u :: r).take (2 ^ 2)) = (((x.toNat : Int) * 256 + y.toNat) * 256 + z.toNat) * 256 + u.toNat := by show num [x, y, z, u] = _; simp [num]
  have e2 : (2 : Int) ^ (8 * 2 ^ 2 - 2) = 1073741824 := rfl
  have e3 : (2 : Int) ^ (4 * 2 ^ 2 - 2) = 16384 := rfl
  rw [htop, if_neg (by decide), if_neg (by decide), if_neg (by simp), e, e2, e3, if_neg (fun h => hm h.2)]; rfl
theorem be_1 (n : Int) : be n 1 = [byteAt n 0] := by simp [be]
theorem be_2 (n : Int) : be n 2 = [byteAt n 1, byteAt n 0] := by simp [be, List.range_succ]
theorem be_4 (n : Int) : be n 4 = [byteAt n 3, byteAt n 2, byteAt n 1, byteAt n 0] := by simp [be, List.range_succ]
theorem rLen_vlen {n : Nat} (h : n < 1073741824) (r : List UInt8) : rLen (vlen n ++ r) 0 = ((n : Int), r, 0) := by
  unfold vlen
  by_cases h1 : n < 64
  · rw [if_pos h1, be_1]
    have hb := byteAt_toNat n 0
    simp at hb
    have := rLen_0 (x := byteAt n 0) (r := r) (by omega)
    show rLen (byteAt n 0 :: r) 0 = _
    rw [this]; congr 1; omega
  · by_cases h2 : n < 16384
    · rw [if_neg h1, if_pos h2, be_2]
      have hb := byteAt_toNat (n + 16384 : Nat) 0
      have hc := byteAt_toNat (n + 16384 : Nat) 1
      rw [show (2 : Int) ^ (8 * 0) = 1 from rfl] at hb
      rw [show (2 : Int) ^ (8 * 1) = 256 from rfl] at hc
      have := rLen_1 (x := byteAt (n + 16384 : Nat) 1) (y := byteAt (n + 16384 : Nat) 0) (r := r) (by omega) (by omega)
      show rLen (byteAt (n + 16384 : Nat) 1 :: byteAt (n + 16384 : Nat) 0 :: r) 0 = _
      rw [this]; congr 1; omega
    · rw [if_neg h1, if_neg h2, be_4]
      have hb := byteAt_toNat (n + 2147483648 : Nat) 0
      have hc := byteAt_toNat (n + 2147483648 : Nat) 1
      have hd := byteAt_toNat (n + 2147483648 : Nat) 2
      have he := byteAt_toNat (n + 2147483648 : Nat) 3
      rw [show (2 : Int) ^ (8 * 0) = 1 from rfl] at hb
      rw [show (2 : Int) ^ (8 * 1) = 256 from rfl] at hc
      rw [show (2 : Int) ^ (8 * 2) = 65536 from rfl] at hd
      rw [show (2 : Int) ^ (8 * 3) = 16777216 from rfl] at he
      have := rLen_2 (x := byteAt (n + 2147483648 : Nat) 3) (y := byteAt (n + 2147483648 : Nat) 2) (z := byteAt (n + 2147483648 : Nat) 1) (u := byteAt (n + 2147483648 : Nat) 0) (r := r) (by omega) (by omega)
      show rLen (byteAt (n + 2147483648 : Nat) 3 :: byteAt (n + 2147483648 : Nat) 2 :: byteAt (n + 2147483648 : Nat) 1 :: byteAt (n + 2147483648 : Nat) 0 :: r) 0 = _
      rw [this]; congr 1; omega
theorem rVec_vec {xs : List UInt8} (h : xs.length ≤ 65536) (r : List UInt8) : rVec (vec xs ++ r) 0 = (xs, r, 0) := by
  unfold rVec vec
  rw [if_neg (by decide), List.append_assoc, rLen_vlen (by omega)]
  dsimp only
  have e : rTake (xs ++ r) 0 (xs.length : Int) = (xs, r, 0) := by
    unfold rTake
    rw [if_neg (by decide), if_neg (by omega), if_neg (by rw [List.length_append]; omega), Int.toNat_natCast, List.take_left' rfl, List.drop_left' rfl]
  rw [if_neg (by decide), if_neg (by omega), e]; rfl
theorem vlen_of {n : Int} {bs : List UInt8} (h : num bs = n) : be n bs.length = bs := by subst h; exact be_num bs
theorem rLen_inv {rest r : List UInt8} {n : Int} (h : rLen rest 0 = (n, r, 0)) : 0 ≤ n ∧ n < 1073741824 ∧ rest = vlen n.toNat ++ r := by
  unfold rLen at h
  rw [if_neg (by decide)] at h
  have htop : top rest < 4 := by
    unfold top
    have := (rest.getD 0 0).toNat_lt; omega
  have ht : top rest = 0 ∨ top rest = 1 ∨ top rest = 2 ∨ top rest = 3 := by omega
  rcases ht with ht | ht | ht | ht <;> rw [ht] at h
  · rw [if_neg (by decide)] at h
    by_cases hl : rest.length < 2 ^ 0
    · rw [if_pos hl] at h; simp at h
    rw [if_neg hl, if_neg (fun h => absurd h.1 (by decide))] at h
    obtain ⟨x, t, rfl⟩ : ∃ x t, rest = x :: t := by
      match rest, hl with
      | [], hl => simp at hl
      | x :: t, _ => exact ⟨x, t, rfl⟩
    have e : num ((x :: t).take (2 ^ 0)) = x.toNat := by show num [x] = _; simp [num]
    have e2 : (2 : Int) ^ (8 * 2 ^ 0 - 2) = 64 := rfl
    have hx : x.toNat / 64 = 0 := ht
    rw [e, e2] at h
    simp only [Prod.mk.injEq] at h
    obtain ⟨h1, h2, _⟩ := h
    have h2 : t = r := h2
    subst h2
    refine ⟨by omega, by omega, ?_⟩
    unfold vlen
    rw [if_pos (by omega), show ((n.toNat : Nat) : Int) = num [x] by simp [num]; omega]
    have := be_num [x]
    rw [show ([x] : List UInt8).length = 1 from rfl] at this
    rw [this]; rfl
  · rw [if_neg (by decide)] at h
    by_cases hl : rest.length < 2 ^ 1
    · rw [if_pos hl] at h; simp at h
    rw [if_neg hl] at h
    obtain ⟨x, y, t, rfl⟩ : ∃ x y t, rest = x :: y :: t := by
      match rest, hl with
      | [], hl => simp at hl
      | [x], hl => simp at hl
      | x :: y :: t, _ => exact ⟨x, y, t, rfl⟩
    have e : num ((x :: y :: t).take (2 ^ 1)) = (x.toNat : Int) * 256 + y.toNat := by show num [x, y] = _; simp [num]
    have e2 : (2 : Int) ^ (8 * 2 ^ 1 - 2) = 16384 := rfl
    have e3 : (2 : Int) ^ (4 * 2 ^ 1 - 2) = 64 := rfl
    have hx : x.toNat / 64 = 1 := ht
    have hy := y.toNat_lt
    rw [e, e2, e3] at h
    by_cases hm : 0 < 1 ∧ ((x.toNat : Int) * 256 + y.toNat) % 16384 / 64 = 0
    · rw [if_pos hm] at h; simp at h
    rw [if_neg hm] at h
    simp only [Prod.mk.injEq] at h
    obtain ⟨h1, h2, _⟩ := h
    have h2 : t = r := h2
    subst h2
    refine ⟨by omega, by omega, ?_⟩
    unfold vlen
    rw [if_neg (by omega), if_pos (by omega), show ((n.toNat + 16384 : Nat) : Int) = num [x, y] by simp [num]; omega]
    have := be_num [x, y]
    rw [show ([x, y] : List UInt8).length = 2 from rfl] at this
    rw [this]; rfl
  · rw [if_neg (by decide)] at h
    by_cases hl : rest.length < 2 ^ 2
    · rw [if_pos hl] at h; simp at h
    rw [if_neg hl] at h
    obtain ⟨x, y, z, u, t, rfl⟩ : ∃ x y z u t, rest = x :: y :: z :: u :: t := by
      match rest, hl with
      | [], hl => simp at hl
      | [x], hl => simp at hl
      | [x, y], hl => simp at hl
      | [x, y, z], hl => simp at hl
      | x :: y :: z :: u :: t, _ => exact ⟨x, y, z, u, t, rfl⟩
    have e : num ((x :: y :: z :: u :: t).take (2 ^ 2)) = (((x.toNat : Int) * 256 + y.toNat) * 256 + z.toNat) * 256 + u.toNat := by show num [x, y, z, u] = _; simp [num]
    have e2 : (2 : Int) ^ (8 * 2 ^ 2 - 2) = 1073741824 := rfl
    have e3 : (2 : Int) ^ (4 * 2 ^ 2 - 2) = 16384 := rfl
    have hx : x.toNat / 64 = 2 := ht
    have hy := y.toNat_lt
    have hz := z.toNat_lt
    have hu := u.toNat_lt
    rw [e, e2, e3] at h
    by_cases hm : 0 < 2 ∧ ((((x.toNat : Int) * 256 + y.toNat) * 256 + z.toNat) * 256 + u.toNat) % 1073741824 / 16384 = 0
    · rw [if_pos hm] at h; simp at h
    rw [if_neg hm] at h
    simp only [Prod.mk.injEq] at h
    obtain ⟨h1, h2, _⟩ := h
    have h2 : t = r := h2
    subst h2
    refine ⟨by omega, by omega, ?_⟩
    unfold vlen
    rw [if_neg (by omega), if_neg (by omega), show ((n.toNat + 2147483648 : Nat) : Int) = num [x, y, z, u] by simp [num]; omega]
    have := be_num [x, y, z, u]
    rw [show ([x, y, z, u] : List UInt8).length = 4 from rfl] at this
    rw [this]; rfl
  · rw [if_pos rfl] at h; simp at h
theorem rVec_inv {rest x r : List UInt8} {e : Int} (h : rVec rest e = (x, r, 0)) : e = 0 ∧ rest = vec x ++ r ∧ x.length ≤ 65536 := by
  unfold rVec at h
  by_cases he : e = 0
  · subst he
    rw [if_neg (by decide)] at h
    obtain ⟨n, r1, e1, h1⟩ : ∃ n r1 e1, rLen rest 0 = (n, r1, e1) := ⟨_, _, _, rfl⟩
    rw [h1] at h
    dsimp only at h
    by_cases h2 : e1 = 0
    · subst h2
      rw [if_neg (by decide)] at h
      by_cases h3 : 65536 < n
      · rw [if_pos h3] at h; simp at h
      · rw [if_neg h3] at h
        obtain ⟨g0, g1, g2⟩ := rLen_inv h1
        by_cases h4 : (r1.length : Int) < n
        · have e : rTake r1 0 n = ([], r1, 20) := by unfold rTake; rw [if_neg (by decide), if_neg (by omega), if_pos h4]
          rw [e] at h; simp at h
        · have e : rTake r1 0 n = (r1.take n.toNat, r1.drop n.toNat, 0) := by unfold rTake; rw [if_neg (by decide), if_neg (by omega), if_neg h4]
          rw [e] at h
          simp at h
          obtain ⟨hx, hr⟩ := h
          have hl : x.length = n.toNat := by rw [← hx, List.length_take]; omega
          refine ⟨rfl, ?_, by omega⟩
          unfold vec
          rw [hl, g2, List.append_assoc, ← hx, ← hr, List.take_append_drop]
    · rw [if_pos h2] at h; simp at h; exact absurd h.2.2 h2
  · rw [if_pos he] at h; simp at h; exact absurd h.2.2 he
theorem vec_pos (xs : List UInt8) : 0 < (vec xs).length := by
  unfold vec vlen
  rw [List.length_append]
  split
  · rw [be_length]; omega
  · split <;> rw [be_length] <;> omega
abbrev Tri := List UInt8 × List UInt8 × List UInt8
def triB (x : Tri) : List UInt8 := vec x.1 ++ vec x.2.1 ++ vec x.2.2
def tri1 (rest : List UInt8) (e : Int) : Tri × List UInt8 × Int :=
  let a := rVec rest e
  let b := rVec a.2.1 a.2.2
  let c := rVec b.2.1 b.2.2
  ((a.1, b.1, c.1), c.2.1, c.2.2)
def triL : Nat → List UInt8 → Int → List Tri × List UInt8 × Int
  | 0, rest, e => ([], rest, e)
  | n + 1, rest, e =>
    if 0 < rest.length ∧ e = 0 then
      let t := tri1 rest e
      let l := triL n t.2.1 t.2.2
      (t.1 :: l.1, l.2)
    else ([], rest, e)
theorem tri1_ok {rest r : List UInt8} {e : Int} {x : Tri} (h : tri1 rest e = (x, r, 0)) : e = 0 ∧ rest = triB x ++ r ∧ x.1.length ≤ 65536 ∧ x.2.1.length ≤ 65536 ∧ x.2.2.length ≤ 65536 := by
  unfold tri1 at h
  obtain ⟨a, ra, ea, ha⟩ : ∃ a ra ea, rVec rest e = (a, ra, ea) := ⟨_, _, _, rfl⟩
  rw [ha] at h; dsimp only at h
  obtain ⟨b, rb, eb, hb⟩ : ∃ b rb eb, rVec ra ea = (b, rb, eb) := ⟨_, _, _, rfl⟩
  rw [hb] at h; dsimp only at h
  obtain ⟨c, rc, ec, hc⟩ : ∃ c rc ec, rVec rb eb = (c, rc, ec) := ⟨_, _, _, rfl⟩
  rw [hc] at h
  simp only [Prod.mk.injEq] at h
  obtain ⟨rfl, rfl, rfl⟩ := h
  obtain ⟨rfl, h3, l3⟩ := rVec_inv hc
  obtain ⟨rfl, h2, l2⟩ := rVec_inv hb
  obtain ⟨rfl, h1, l1⟩ := rVec_inv ha
  exact ⟨rfl, by unfold triB; rw [h1, h2, h3]; simp, l1, l2, l3⟩
theorem triB_pos (x : Tri) : 0 < (triB x).length := by
  unfold triB
  have := vec_pos x.1
  rw [List.length_append, List.length_append]; omega
theorem triL_step {n : Nat} {rest : List UInt8} {e : Int} (hr : 0 < rest.length) (he : e = 0) : triL (n + 1) rest e = ((tri1 rest e).1 :: (triL n (tri1 rest e).2.1 (tri1 rest e).2.2).1, (triL n (tri1 rest e).2.1 (tri1 rest e).2.2).2) := by
  rw [triL, if_pos ⟨hr, he⟩]
theorem triL_end (n : Nat) {rest : List UInt8} {e : Int} (h : ¬ (0 < rest.length ∧ e = 0)) : triL n rest e = ([], rest, e) := by
  cases n with
  | zero => rfl
  | succ n => rw [triL, if_neg h]
theorem tri1_less {rest : List UInt8} {e : Int} (hr : 0 < rest.length) : (tri1 rest e).2.2 = 0 → (tri1 rest e).2.1.length < rest.length := by
  intro h
  have ht : tri1 rest e = ((tri1 rest e).1, (tri1 rest e).2.1, 0) := Prod.ext rfl (Prod.ext rfl h)
  obtain ⟨_, h4, _⟩ := tri1_ok ht
  have hp := triB_pos (tri1 rest e).1
  have := congrArg List.length h4
  rw [List.length_append] at this
  omega
def TriI (lb : List UInt8) (xs : List Tri) (rest : List UInt8) (e : Int) : Prop := ∃ n, rest.length + (if e = 0 then 1 else 0) ≤ n ∧ triL (lb.length + 1) lb 0 = (xs ++ (triL n rest e).1, (triL n rest e).2)
theorem triI_start (lb : List UInt8) : TriI lb [] lb 0 := ⟨lb.length + 1, by simp, by simp⟩
theorem triI_step {lb rest : List UInt8} {xs : List Tri} {e : Int} (h : TriI lb xs rest e) (hr : 0 < rest.length) (he : e = 0) : TriI lb (xs ++ [(tri1 rest e).1]) (tri1 rest e).2.1 (tri1 rest e).2.2 := by
  obtain ⟨n, hn, h⟩ := h
  rw [if_pos he] at hn
  cases n with
  | zero => omega
  | succ n =>
    rw [triL_step hr he] at h
    refine ⟨n, ?_, by rw [h]; simp⟩
    by_cases h0 : (tri1 rest e).2.2 = 0
    · rw [if_pos h0]
      have := tri1_less hr h0
      omega
    · rw [if_neg h0]
      have : (tri1 rest e).2.1.length ≤ rest.length := Nat.le_trans (rVec_len _ _) (Nat.le_trans (rVec_len _ _) (rVec_len _ _))
      omega
theorem triI_end {lb rest : List UInt8} {xs : List Tri} {e : Int} (h : TriI lb xs rest e) (hc : ¬ (0 < rest.length ∧ e = 0)) : triL (lb.length + 1) lb 0 = (xs, rest, e) := by
  obtain ⟨n, _, h⟩ := h
  rw [triL_end n hc] at h
  rw [h]; simp
end Go.Byt
namespace Go.Byt
theorem rVec_out (rest : List UInt8) (e : Int) : (rVec rest e).1.length ≤ 65536 := by
  by_cases h : (rVec rest e).2.2 = 0
  · have h' : rVec rest e = ((rVec rest e).1, (rVec rest e).2.1, 0) := Prod.ext rfl (Prod.ext rfl h)
    exact (rVec_inv h').2.2
  · unfold rVec at h ⊢
    by_cases h1 : e ≠ 0
    · rw [if_pos h1]; simp
    · rw [if_neg h1] at h ⊢
      dsimp only at h ⊢
      by_cases h2 : (rLen rest 0).2.2 ≠ 0
      · rw [if_pos h2]; simp
      · rw [if_neg h2] at h ⊢
        by_cases h3 : 65536 < (rLen rest 0).1
        · rw [if_pos h3]; simp
        · rw [if_neg h3] at h ⊢
          by_cases h4 : (rTake (rLen rest 0).2.1 0 (rLen rest 0).1).2.2 ≠ 0
          · rw [if_pos h4]; simp
          · rw [if_neg h4] at h; exact absurd h h4
def TriJ (lb : List UInt8) (xs : List Tri) (rest : List UInt8) (e : Int) : Prop := TriI lb xs rest e ∧ xs.length + rest.length ≤ lb.length + (if e = 0 then 0 else 1)
theorem triJ_start (lb : List UInt8) : TriJ lb [] lb 0 := ⟨triI_start lb, by simp⟩
theorem triJ_step {lb rest : List UInt8} {xs : List Tri} {e : Int} (h : TriJ lb xs rest e) (hr : 0 < rest.length) (he : e = 0) : TriJ lb (xs ++ [(tri1 rest e).1]) (tri1 rest e).2.1 (tri1 rest e).2.2 := by
  refine ⟨triI_step h.1 hr he, ?_⟩
  have h2 := h.2
  rw [if_pos he] at h2
  rw [List.length_append, List.length_singleton]
  by_cases h0 : (tri1 rest e).2.2 = 0
  · rw [if_pos h0]
    have := tri1_less hr h0
    omega
  · rw [if_neg h0]
    have : (tri1 rest e).2.1.length ≤ rest.length := Nat.le_trans (rVec_len _ _) (Nat.le_trans (rVec_len _ _) (rVec_len _ _))
    omega
theorem small_nil : ∀ x ∈ ([] : List Tri), x.1.length ≤ 65536 ∧ x.2.1.length ≤ 65536 ∧ x.2.2.length ≤ 65536 := fun x hx => by cases hx
theorem small_step {xs : List Tri} (h : ∀ x ∈ xs, x.1.length ≤ 65536 ∧ x.2.1.length ≤ 65536 ∧ x.2.2.length ≤ 65536) (rest : List UInt8) (e : Int) : ∀ x ∈ xs ++ [(tri1 rest e).1], x.1.length ≤ 65536 ∧ x.2.1.length ≤ 65536 ∧ x.2.2.length ≤ 65536 := by
  intro x hx
  rcases List.mem_append.1 hx with h1 | h1
  · exact h x h1
  · rw [List.mem_singleton] at h1; subst h1
    exact ⟨rVec_out _ _, rVec_out _ _, rVec_out _ _⟩
def triM (rest : List UInt8) (e : Int) : Nat := rest.length + (if e = 0 then 1 else 0)
theorem triM_less {rest : List UInt8} {e : Int} (hr : 0 < rest.length) (he : e = 0) : triM (tri1 rest e).2.1 (tri1 rest e).2.2 < triM rest e := by
  unfold triM
  rw [if_pos he]
  by_cases h0 : (tri1 rest e).2.2 = 0
  · rw [if_pos h0]; have := tri1_less hr h0; omega
  · rw [if_neg h0]
    have : (tri1 rest e).2.1.length ≤ rest.length := Nat.le_trans (rVec_len _ _) (Nat.le_trans (rVec_len _ _) (rVec_len _ _))
    omega
def triOk (x : Tri) : Bool := decide (x.1.length = 32) && decide (x.2.1.length = 32) && decide (x.2.2.length ≤ 30000)
def triN (ss : List Tri) : Nat := (ss.map fun x => 70 + x.2.2.length).sum
def welOk (ss : List Tri) (info : List UInt8) : Bool := decide (1 ≤ ss.length) && decide (ss.length ≤ 64) && decide (info.length ≤ 64000) && ss.all triOk && decide (triN ss ≤ 60000)
def welE (ss : List Tri) (info : List UInt8) : Int := bif welOk ss info then 0 else 1
def welB (ss : List Tri) (info : List UInt8) : List UInt8 := bif welOk ss info then vec (ss.flatMap triB) ++ vec info else []
theorem triN_take {ss : List Tri} {i : Nat} {x : Tri} (h : ss[i]? = some x) : triN (ss.take (i + 1)) = triN (ss.take i) + (70 + x.2.2.length) := by
  rw [take_get h]; unfold triN; simp
theorem triN_le (ss : List Tri) (i : Nat) : triN (ss.take i) ≤ triN ss := by
  have : triN ss = triN (ss.take i) + triN (ss.drop i) := by unfold triN; rw [← List.sum_append, ← List.map_append, List.take_append_drop]
  omega
theorem flat_take {ss : List Tri} {i : Nat} {x : Tri} (h : ss[i]? = some x) : (ss.take (i + 1)).flatMap triB = (ss.take i).flatMap triB ++ triB x := by
  rw [take_get h]; simp
theorem all_take {ss : List Tri} {i : Nat} {x : Tri} (h : ss[i]? = some x) (ha : (ss.take i).all triOk = true) (hx : triOk x = true) : (ss.take (i + 1)).all triOk = true := by
  rw [take_get h, List.all_append, ha]; simp [hx]
theorem triOk_iff {x : Tri} : triOk x = true ↔ x.1.length = 32 ∧ x.2.1.length = 32 ∧ x.2.2.length ≤ 30000 := by
  unfold triOk; simp only [Bool.and_eq_true, decide_eq_true_eq, and_assoc]
theorem triB_len {x : Tri} (h : triOk x = true) : (triB x).length ≤ 70 + x.2.2.length := by
  obtain ⟨h1, h2, h3⟩ := triOk_iff.1 h
  unfold triB vec
  have e1 : (vlen x.1.length).length = 1 := by rw [h1]; rfl
  have e2 : (vlen x.2.1.length).length = 1 := by rw [h2]; rfl
  have e3 := vlen_length x.2.2.length
  simp only [List.length_append]; omega
theorem flat_len : ∀ {ss : List Tri}, ss.all triOk = true → (ss.flatMap triB).length ≤ triN ss
  | [], _ => by simp
  | x :: ss, h => by
    rw [List.all_cons, Bool.and_eq_true] at h
    have h1 := triB_len h.1
    have h2 := flat_len h.2
    rw [List.flatMap_cons, List.length_append]
    have : triN (x :: ss) = (70 + x.2.2.length) + triN ss := by unfold triN; simp
    omega
theorem bad_at {ss : List Tri} {info : List UInt8} {i : Nat} {x : Tri} (h : ss[i]? = some x) (hx : triOk x = false) : welOk ss info = false := by
  have : ss.all triOk = false := by
    rw [List.all_eq_false]
    exact ⟨x, List.mem_of_getElem? h, by simp [hx]⟩
  unfold welOk; rw [this]; simp
theorem bad_sum {ss : List Tri} {info : List UInt8} (i : Nat) (hx : 60000 < triN (ss.take i)) : welOk ss info = false := by
  have := triN_le ss i
  unfold welOk; rw [decide_eq_false (show ¬ triN ss ≤ 60000 by omega)]; simp
theorem bad_len {ss : List Tri} {info : List UInt8} (h : ss.length < 1 ∨ 64 < ss.length ∨ 64000 < info.length) : welOk ss info = false := by
  unfold welOk
  rcases h with h | h | h
  · rw [decide_eq_false (show ¬ 1 ≤ ss.length by omega)]; simp
  · rw [decide_eq_false (show ¬ ss.length ≤ 64 by omega)]; simp
  · rw [decide_eq_false (show ¬ info.length ≤ 64000 by omega)]; simp
theorem good_wel {ss : List Tri} {info : List UInt8} (h1 : 1 ≤ ss.length) (h2 : ss.length ≤ 64) (h3 : info.length ≤ 64000) (h4 : ss.all triOk = true) (h5 : triN ss ≤ 60000) : welOk ss info = true := by
  unfold welOk
  rw [decide_eq_true h1, decide_eq_true h2, decide_eq_true h3, h4, decide_eq_true h5]; rfl
def welP (c : List UInt8) : (List Tri × List UInt8 × Int) × List UInt8 × List UInt8 × Int :=
  let a := rVec c 0
  let b := rVec a.2.1 a.2.2
  (triL (a.1.length + 1) a.1 0, b.1, b.2.1, b.2.2)
def getOk (c : List UInt8) : Bool := welOk (welP c).1.1 (welP c).2.1 && decide (welB (welP c).1.1 (welP c).2.1 = c)
def getS (c : List UInt8) : List Tri := bif getOk c then (welP c).1.1 else []
def getI (c : List UInt8) : List UInt8 := bif getOk c then (welP c).2.1 else []
def getE (c : List UInt8) : Int := bif getOk c then 0 else 21
theorem welP_1 {c : List UInt8} {xs : List Tri} {rest : List UInt8} {e : Int} (h : triL ((rVec c 0).1.length + 1) (rVec c 0).1 0 = (xs, rest, e)) : welP c = ((xs, rest, e), (rVec (rVec c 0).2.1 (rVec c 0).2.2).1, (rVec (rVec c 0).2.1 (rVec c 0).2.2).2.1, (rVec (rVec c 0).2.1 (rVec c 0).2.2).2.2) := by
  unfold welP; dsimp only; rw [h]
theorem getOk_1 {c : List UInt8} {xs : List Tri} {rest : List UInt8} {e : Int} (h : triL ((rVec c 0).1.length + 1) (rVec c 0).1 0 = (xs, rest, e)) : getOk c = (welOk xs (rVec (rVec c 0).2.1 (rVec c 0).2.2).1 && decide (welB xs (rVec (rVec c 0).2.1 (rVec c 0).2.2).1 = c)) := by
  unfold getOk; rw [welP_1 h]
end Go.Byt
set_option linter.unusedVariables false
set_option linter.unusedSimpArgs false
namespace Go.Eng
open Go Go.Byt
def TriR (w : World) (cs : List Value) (x : Tri) : Prop := ∃ r e b, cs = [r, e, b] ∧ RdB w r x.1 ∧ RdB w e x.2.1 ∧ RdB w b x.2.2
theorem TriR.keep0 {w w' : World} {cs : List Value} {x : Tri} (h : TriR w cs x) (k : Keep [] w w') : TriR w' cs x := by
  obtain ⟨r, e, b, h0, h1, h2, h3⟩ := h; exact ⟨r, e, b, h0, h1.keep0 k, h2.keep0 k, h3.keep0 k⟩
abbrev RdT (w : World) (v : Value) (ss : List Tri) : Prop := RdE w 3 (TriR w) v ss
theorem RdT.keep0 {w w' : World} {v : Value} {ss : List Tri} (h : RdT w v ss) (k : Keep [] w w') : RdT w' v ss := (RdE.keep h k (fun _ _ h => by cases h)).mono fun _ _ h => h.keep0 k
theorem tri_at {w : World} {css : List (List Value)} {ss : List Tri} (h : Els 3 (TriR w) css ss) {i : Nat} (hi : i < ss.length) : ∃ x r e b, ss[i]? = some x ∧ (css.flatten.drop (i * 3)).take 3 = [r, e, b] ∧ RdB w r x.1 ∧ RdB w e x.2.1 ∧ RdB w b x.2.2 := by
  obtain ⟨h1, h2, h3⟩ := h
  have hc : css[i]? = some (css[i]'(by omega)) := List.getElem?_eq_getElem (by omega)
  have hx : ss[i]? = some ss[i] := List.getElem?_eq_getElem hi
  obtain ⟨r, e, b, h0, hr, he, hb⟩ := h3 i _ _ hc hx
  exact ⟨_, r, e, b, hx, by rw [← h0]; exact flat_drop h2 hc, hr, he, hb⟩
abbrev OwB (t8 : TypeId) (w : World) (lo : Nat) (u : Value) (xs : List UInt8) : Prop := Own w lo t8 1 u xs.length (bv xs)
def TriO (t8 : TypeId) (w : World) (lo : Nat) (v : Value) (cs : List Value) (x : Tri) : Prop := ∃ r e b, cs = [r, e, b] ∧ OwB t8 w lo r x.1 ∧ OwB t8 w lo e x.2.1 ∧ OwB t8 w lo b x.2.2 ∧ (∀ y, y ∈ vblk r → y ∉ vblk v) ∧ (∀ y, y ∈ vblk e → y ∉ vblk v) ∧ (∀ y, y ∈ vblk b → y ∉ vblk v)
def OwT (t8 : TypeId) (w : World) (lo : Nat) (T : TypeId) (v : Value) (ss : List Tri) : Prop := OwnE w lo T 3 (TriO t8 w lo v) v ss
theorem OwT.rdT {t8 : TypeId} {w : World} {lo : Nat} {T : TypeId} {v : Value} {ss : List Tri} (h : OwT t8 w lo T v ss) : RdT w v ss := (OwnE.rd h).mono fun _ _ ⟨r, e, b, h0, h1, h2, h3, _⟩ => ⟨r, e, b, h0, h1.rd, h2.rd, h3.rd⟩
theorem OwT.blk {t8 : TypeId} {w : World} {lo : Nat} {T : TypeId} {v : Value} {ss : List Tri} (h : OwT t8 w lo T v ss) : ∀ x, x ∈ vblk v → lo ≤ x ∧ x < w.heap.size := OwnE.blk h
theorem OwT.keepL {t8 : TypeId} {S : List Nat} {w w' : World} {lo : Nat} {T : TypeId} {v : Value} {ss : List Tri} (h : OwT t8 w lo T v ss) (k : Keep S w w') (hS : ∀ x, x ∈ S → x < lo) : OwT t8 w' lo T v ss := by
  have ap : ∀ {u : Value} {xs : List UInt8}, OwB t8 w lo u xs → OwB t8 w' lo u xs := fun ho => Own.keep ho k (fun x hx hm => by have h1 := hS x hm; have h2 := (Own.blk ho x hx).1; omega)
  refine (OwnE.keep h k (fun x hx hm => by have h1 := hS x hm; have h2 := (OwnE.blk h x hx).1; omega)).mono fun _ _ ⟨r, e, b, h0, h1, h2, h3, h4⟩ => ⟨r, e, b, h0, ap h1, ap h2, ap h3, h4⟩
theorem OwT.keep0 {t8 : TypeId} {w w' : World} {lo : Nat} {T : TypeId} {v : Value} {ss : List Tri} (h : OwT t8 w lo T v ss) (k : Keep [] w w') : OwT t8 w' lo T v ss := h.keepL k (fun _ h => by cases h)
theorem OwT.keep {t8 : TypeId} {S : List Nat} {w w' : World} {lo : Nat} {T : TypeId} {v : Value} {ss : List Tri} (h : OwT t8 w lo T v ss) (k : Keep S w w') (hS : ∀ x, lo ≤ x → x ∉ S) : OwT t8 w' lo T v ss := h.keepL k (fun x hx => by rcases Nat.lt_or_ge x lo with h | h; exact h; exact absurd hx (hS x h))
theorem owT_nil (t8 : TypeId) (w : World) (lo : Nat) (T : TypeId) : OwT t8 w lo T (.slice none 0 0) [] := ownE_nil _ _ _ _ _
theorem OwT.lo {t8 : TypeId} {w : World} {lo lo' : Nat} {T : TypeId} {v : Value} {ss : List Tri} (h : OwT t8 w lo T v ss) (hl : lo' ≤ lo) : OwT t8 w lo' T v ss := (OwnE.lo h hl).mono fun _ _ ⟨r, e, b, h0, h1, h2, h3, h4⟩ => ⟨r, e, b, h0, Own.lo h1 hl, Own.lo h2 hl, Own.lo h3 hl, h4⟩
theorem OwT.one {t8 : TypeId} {w : World} {lo : Nat} {T : TypeId} {v : Value} {ss : List Tri} (h : OwT t8 w lo T v ss) : v.oneCell' = true := by obtain ⟨css, _, h⟩ := h; exact h.rd.one
section
variable {P : Program} {n : Nat} {f : Fr} {w : World} {ty : TypeId}
theorem d_callv {x : Operand} {i : FuncId} {args : Array Operand} {ats : Array TypeId} {vs : List Value} {R : Value → World → Prop} (hf : f.ev x = some (.func (.func i) #[] #[])) (hx : f.evs args.toList = some vs) (hc : Rets P i vs w R) :
    Does P n f w (.call { callee := .value x, args := args, argTypes := ats }) ty R := by
  intro a ha dst pos aft g K Q hK
  obtain ⟨⟨fn, hfn, hb, hnm⟩, hcalls⟩ := hc
  have hb' : fn.body.isNone = false := by cases h : fn.body <;> simp_all
  have hm : args.map a.eval = vs.toArray := by rw [← Array.toList_inj]; simp [ha.evs hx]
  have hr : (execOp a.eval ⟨dst, .call { callee := .value x, args := args, argTypes := ats }, ty, pos, aft, g⟩).run P w = .ok (.enter i vs.toArray) w := by
    have hcf : (callFunc i vs.toArray).run P w = .ok (.enter i vs.toArray) w := by
      simp only [callFunc, Sem.run_bind, run_program, Result.andThen_ok, hfn, hnm, Bool.false_eq_true, if_false, hb', Sem.run_pure]
    simp [execOp, resolve, Deferred.ofValue, ha.ev hf, invoke, hm, hcf]
  unfold Oper.wp
  rw [hr]
  exact Calls.mono hcalls fun e w' ⟨v, he, hv⟩ => by subst he; exact hK v w' hv
theorem d_appT {t8 t e : TypeId} {x y : Operand} {lo by_ : Nat} {v u r q b : Value} {ss : List Tri} {z : Tri} {zs : List Value} (ht : P.underlying t = some (.slice e)) (he : Ty P e zs 3 by_) (hzs : zs.length = 3)
    (hx : f.ev x = some v) (ho : OwT t8 w lo e v ss) (hy : f.ev y = some u) (hr : Rd w 3 u 1 [r, q, b]) (h1 : OwB t8 w lo r z.1) (h2 : OwB t8 w lo q z.2.1) (h3 : OwB t8 w lo b z.2.2)
    (a1 : ∀ y, y ∈ vblk r → y ∉ vblk v) (a2 : ∀ y, y ∈ vblk q → y ∉ vblk v) (a3 : ∀ y, y ∈ vblk b → y ∉ vblk v) (hb : (ss.length + 1) * by_ ≤ 140737488355328 ∧ ss.length + 1 ≤ 9223372036854775807) (hl : lo ≤ w.heap.size) :
    Does P n f w (.call { callee := .builtin .append, args := #[x, y], argTypes := #[t, t] }) ty
      (fun v' w' => OwT t8 w' lo e v' (ss ++ [z]) ∧ Keep (vblk v) w w' ∧ (∀ x, x ∈ vblk v' → x ∈ vblk v ∨ w.heap.size ≤ x)) := by
  obtain ⟨css, hE, hO⟩ := ho
  have one : ∀ c ∈ [r, q, b], c.oneCell' = true := by
    intro c hc
    simp only [List.mem_cons, List.not_mem_nil, or_false] at hc
    rcases hc with rfl | rfl | rfl
    · exact (Own.rd h1).one
    · exact (Own.rd h2).one
    · exact (Own.rd h3).one
  refine (d_app ht he (by decide) hzs hx hO hy hr one hb hl).mono fun v' w' ⟨g1, g2, g3, _⟩ => ⟨⟨css ++ [[r, q, b]], ?_, ?_⟩, g2, g3⟩
  · have ap : ∀ {u : Value} {xs : List UInt8}, OwB t8 w lo u xs → (∀ y, y ∈ vblk u → y ∉ vblk v) → OwB t8 w' lo u xs ∧ ∀ y, y ∈ vblk u → y ∉ vblk v' := fun ho ha =>
      ⟨Own.keep ho g2 ha, fun y hy hm => by
        rcases g3 y hm with h | h
        · exact ha y hy h
        · have := (Own.blk ho y hy).2; omega⟩
    refine Els.snoc (hE.mono fun cs x ⟨r, e, b, h0, i1, i2, i3, i4, i5, i6⟩ => ⟨r, e, b, h0, (ap i1 i4).1, (ap i2 i5).1, (ap i3 i6).1, (ap i1 i4).2, (ap i2 i5).2, (ap i3 i6).2⟩) rfl ⟨r, q, b, rfl, (ap h1 a1).1, (ap h2 a2).1, (ap h3 a3).1, (ap h1 a1).2, (ap h2 a2).2, (ap h3 a3).2⟩
  · rw [List.flatten_append, List.length_append]; simpa using g1
end
theorem lent_rd {w : World} {lo : Nat} {e : TypeId} {u : Value} {xs : List UInt8} (o : Own w lo e 1 u (xs.length + 2) (bv (xs ++ [201, 202]))) : RdB w (cut u 0 xs.length 1) xs := by
  have h : RdB w u (xs ++ [201, 202]) := by unfold RdB; rw [List.length_append]; exact o.rd
  have h' := h.cutB (l := 0) (hi := xs.length) (by omega) (by simp)
  simpa using h'
theorem cut_cut {w : World} {n : Nat} {cs : List Value} {u : Value} {m k : Nat} (h : Rd w 1 u n cs) : cut (cut u 0 m 1) 0 k 1 = cut u 0 k 1 := by
  obtain ⟨A, c, rfl, _⟩ := h
  have e : ∀ a : Addr, a.add 0 = a := fun a => Addr.add_zero' a
  cases A with
  | none => simp [cut]
  | some a => simp [cut, e]
theorem mark1 (xs : List UInt8) : gb (xs ++ [201, 202]) (xs.length : Int) = 201 := by unfold gb; simp
theorem mark2 (xs : List UInt8) : gb (xs ++ [201, 202]) ((xs.length : Int) + 1) = 202 := by
  unfold gb
  rw [show ((xs.length : Int) + 1).toNat = xs.length + 1 by omega, List.getD_eq_getElem?_getD, List.getElem?_append_right (by omega)]
  simp
theorem RdT.one {w : World} {v : Value} {ss : List Tri} (h : RdT w v ss) : v.oneCell' = true := by obtain ⟨_, _, h⟩ := h; exact h.one
theorem SlL.cblk {w : World} {lo : Nat} {T : TypeId} {v : Value} {ls : List (List UInt8)} (h : SlL w lo T v ls) : Eng.cblk v = Eng.vblk v := by obtain ⟨us, _, _, h3⟩ := h; exact h3.rd.cblk
end Go.Eng
set_option linter.unusedVariables false
set_option linter.unusedSimpArgs false
namespace Go.Eng
open Go Go.ChangeShapes Go.WideShapes Go.ChangeAt Go.RowKit
section
variable {H : Type} {enc : TypeId × Value → H} {P : Program} {w : World} {base : Nat} {held : Bool}
def Small (P : Program) (t : TypeId) (d : DataW H) : Prop := ∀ n ∈ d.weights P t, n ≤ reachBytes
theorem small_arg {ts : List TypeId} {ds : List (DataW H)} (h : (DataW.weightsEach P ts ds).all (· ≤ reachBytes) = true) {j : Nat} {t : TypeId} {d : DataW H} (ht : ts[j]? = some t) (hd : ds[j]? = some d) : Small P t d := by
  intro n hn
  have := List.all_eq_true.1 h n (DataW.weights_mem_each ht hd n hn)
  simpa using this
theorem small_field {t : TypeId} {fs : Array Field} {parts : List (DataW H)} (hu : P.underlying t = some (.struct fs)) (h : Small P t (.agg parts)) {i : Nat} {f : Field} {d : DataW H} (hf : fs[i]? = some f) (hd : parts[i]? = some d) : Small P f.type d := by
  intro n hn
  refine h n ?_
  simp only [DataW.weights, hu]
  exact DataW.weights_mem_each (j := i) (by simp [hf]) hd n hn
theorem small_len {t e : TypeId} {elems spare : List (DataW H)} (hu : P.underlying t = some (.slice e)) (h : Small P t (.slice elems spare)) : (elems.length + spare.length) * P.bytesOf e ≤ reachBytes := by
  refine h _ ?_
  simp [DataW.weights, hu]
theorem read_bytes' {t e : TypeId} {fuel : Nat} {cs : List Value} {y : DataW H × List MemPlace} (ht : P.underlying t = some (.slice e)) (he : P.underlying e = some (.int .u8)) (hc : P.cellsOf e = 1) (hb : P.bytesOf e = 1)
    (h : DataW.trod enc P w base (fun _ => true) held fuel t cs = some y) (hs : Small P t y.1) : ∃ v xs, cs = [v] ∧ RdB w v xs ∧ xs.length ≤ 140737488351232 := by
  rcases open_ints ht he hc h with ⟨rfl, rfl⟩ | ⟨a, len, cap, zs, rfl, _, hl, hm, hz, hy, hcell, hwz⟩
  · exact ⟨_, [], rfl, Rd.nil _ _, by decide⟩
  · simp only [if_true] at hz
    have hr : reachBytes ≤ 140737488351232 := by decide
    rw [hy] at hs
    have h9 := small_len ht hs
    rw [hb] at h9
    simp only [lits, List.length_map, List.length_take, List.length_drop] at h9
    have hbv : bv ((zs.take len).map fun n => UInt8.ofNat n.toNat) = (zs.take len).map fun n => Value.int .u8 n := by
      simp only [bv, List.map_map]
      apply List.map_congr_left
      intro n hn
      have h1 := hwz n (List.mem_of_mem_take hn)
      have e1 : IntKind.u8.min = 0 := by decide
      have e2 : IntKind.u8.max = 255 := by decide
      simp only [Lit.wf, e1, e2, Bool.and_eq_true, decide_eq_true_eq] at h1
      simp only [Function.comp, UInt8.toNat_ofNat']
      congr 1; omega
    refine ⟨_, (zs.take len).map fun n => UInt8.ofNat n.toNat, rfl, ⟨some a, cap, ?_, ?_, hm, by simp, (fun h => by cases h), ?_⟩, by simp only [List.length_map, List.length_take]; omega⟩
    · congr 1; simp only [List.length_map, List.length_take]; omega
    · simp only [List.length_map, List.length_take]; omega
    · intro a' ha
      cases ha
      rw [hbv]
      intro j u hj
      rw [List.getElem?_map, List.getElem?_take] at hj
      by_cases hjl : j < len
      · rw [if_pos hjl] at hj
        have hjz : j < zs.length := by omega
        rw [List.getElem?_eq_getElem hjz] at hj
        simp only [Option.map_some, Option.some.injEq] at hj
        rw [hcell j hjz, ← hj, List.getD_eq_getElem?_getD, List.getElem?_eq_getElem hjz]; rfl
      · rw [if_neg hjl] at hj; cases hj
theorem read_int {t : TypeId} {k : IntKind} {fuel : Nat} {cs : List Value} {y : DataW H × List MemPlace} (ht : P.underlying t = some (.int k))
    (h : DataW.trod enc P w base (fun _ => true) held fuel t cs = some y) : ∃ n, cs = [.int k n] ∧ (Lit.int k n).wf = true := by
  obtain ⟨m, h1, _, h3⟩ := DataW.trod_int ht h
  exact ⟨m, h1, h3⟩
theorem read_struct {t : TypeId} {fs : Array Field} {fuel : Nat} {cs : List Value} {y : DataW H × List MemPlace} (ht : P.underlying t = some (.struct fs)) (h : DataW.trod enc P w base (fun _ => true) held fuel t cs = some y) (hs : Small P t y.1) :
    cs.length = P.cellsOf t ∧ ∃ n, ∀ (i : Nat) (f : Field), fs[i]? = some f → ∃ z : DataW H × List MemPlace, DataW.trod enc P w base (fun _ => true) held n f.type ((cs.drop f.offset).take (P.cellsOf f.type)) = some z ∧ Small P f.type z.1 := by
  obtain ⟨xs, n, _, hy, hl, hlen, hf⟩ := DataW.trod_struct ht h
  refine ⟨hl, n, fun i f hi => ?_⟩
  have hlt : i < xs.length := by
    rw [hlen]; exact (Array.getElem?_eq_some_iff.1 hi).1
  refine ⟨xs[i], by rw [hf i f hi, List.getElem?_eq_getElem hlt], ?_⟩
  rw [hy] at hs
  exact small_field ht hs hi (by simp [List.getElem?_eq_getElem hlt])
theorem trod_below {t : TypeId} {v : Value} {d : DataW H} {ps : List MemPlace} {sp : Nat → Bool} (h : DataW.Trod enc P w base sp held t v d ps) : ∀ x ∈ ps, x.block < w.heap.size := by
  obtain ⟨m, hm⟩ := h; exact DataW.trod_lt m _ _ _ hm
end
end Go.Eng
namespace Go.Proofs.Ytimeclfplaonkaa.W
open Go Go.Eng Go.Byt
set_option linter.unusedVariables false
set_option linter.unusedSimpArgs false
abbrev SlB (w : World) (lo : Nat) (v : Value) (ls : List (List UInt8)) : Prop := SlL w lo 23 v ls
set_option maxRecDepth 100000 in
set_option maxHeartbeats 1000000 in
theorem gvectorsN_any (v : Value) (ls : List (List UInt8)) (lo : Nat) (w : World) (h : SlB w lo v ls) (hsum : (vecs ls).length ≤ 140737488355328 ∨ ls.length ≤ 1000) : Rets Try.prog 38 [v] w (fun u w' => OwnB w' w.heap.size u (vecsB ls) ∧ Keep [] w w') := by
 have hB : Keep [] w w := Keep.refl _ _
 obtain ⟨us, h1, h2, h3⟩ := h
 replace h3 := h3.rd
 rw [← h1] at h3
 refine rets_of_tw Try.func38 rfl (by decide) Try.ntmps38 rfl (fun fin _ hfin => ?_)
 refine tw_seq (tw_region (ow_g (g_as rfl) rfl (ow_nil (tw_seq (tw_region (ow_g (g_mv rfl) rfl ?_))))))
 refine ow_d (d_call (vs := [_]) rfl (vectorsN_any _ us ls _ (Rd.keep0 h3 hB) (RdL.keep0 h2 hB) hsum)) rfl ?_
 rintro _ w1 ⟨v1, rfl, o1, k1⟩
 have gl_o1 := hB.size
 replace hB := hB.trans k1
 have u_o1 := o1.blk
 refine ow_g (g_mv rfl) rfl (ow_g (g_ext (vs := [_, _]) rfl rfl) rfl ?_)
 refine ow_g (g_ext (vs := [_, _]) rfl rfl) rfl ?_
 refine ow_g (g_as rfl) rfl (ow_g (g_as rfl) rfl (ow_nil (tw_seq (tw_region (ow_g (g_mv rfl) rfl (ow_g (g_as rfl) rfl ?_))))))
 refine ow_nil (tw_ret1 hfin Try.results38 rfl ?_)
 exact ⟨‹OwnB _ _ _ _›.lo (Nat.le_refl _), hB⟩
theorem gvectors_any (v : Value) (ls : List (List UInt8)) (lo : Nat) (w : World) (h : SlB w lo v ls) (hsum : (vecs ls).length ≤ 140737488355328) : Rets Try.prog 38 [v] w (fun u w' => OwnB w' w.heap.size u (vecsB ls) ∧ Keep [] w w') := gvectorsN_any v ls lo w h (.inl hsum)
set_option maxRecDepth 100000 in
set_option maxHeartbeats 1000000 in
theorem beq_any (v u : Value) (xs ys : List UInt8) (w : World) (hv : RdB w v xs) (hu : RdB w u ys) : Rets Try.prog 65 [v, u] w (fun r w' => r = .bool (decide (xs = ys)) ∧ w = w') := by
 refine rets_of_tw Try.func65 rfl (by decide) Try.ntmps65 rfl (fun fin _ hfin => ?_)
 refine tw_seq (tw_region (ow_g (g_as rfl) rfl (ow_nil (tw_seq (tw_region (ow_g (g_mv rfl) rfl ?_))))))
 refine ow_g (g_str Try.underlying23 Try.underlying5 Try.underlying9 rfl (by first | assumption | exact Own.rd ‹_› | exact Rd.keep0 ‹_› hB | exact Own.rd (Own.keep0 ‹_› hB))) rfl ?_
 refine ow_g (g_mv rfl) rfl (ow_g (g_str Try.underlying23 Try.underlying5 Try.underlying9 rfl (by first | assumption | exact Own.rd ‹_› | exact Rd.keep0 ‹_› hB | exact Own.rd (Own.keep0 ‹_› hB))) rfl ?_)
 refine ow_g (g_eqs rfl rfl) rfl ?_
 refine ow_g (g_as rfl) rfl (ow_nil (tw_ret1 hfin Try.results65 rfl ?_))
 exact ⟨rfl, rfl⟩
theorem vecsB_tri {x : Tri} (h : triOk x = true) : vecsB [x.1, x.2.1, x.2.2] = triB x := by
  obtain ⟨h1, h2, h3⟩ := triOk_iff.1 h
  unfold vecsB
  rw [if_pos (by intro y hy; simp only [List.mem_cons, List.not_mem_nil, or_false] at hy; rcases hy with rfl | rfl | rfl <;> omega)]
  simp [vecs, triB]
theorem vecs_len3 {a b c : List UInt8} (h1 : a.length ≤ 65536) (h2 : b.length ≤ 65536) (h3 : c.length ≤ 65536) : (vecs [a, b, c]).length ≤ 140737488355328 := by
  have e1 := vlen_length a.length; have e2 := vlen_length b.length; have e3 := vlen_length c.length
  simp only [vecs, vec, List.flatMap_cons, List.flatMap_nil, List.append_nil, List.length_append]; omega
theorem vecs_len2 {a b : List UInt8} (h1 : a.length ≤ 65536) (h2 : b.length ≤ 65536) : (vecs [a, b]).length ≤ 140737488355328 := by
  have e1 := vlen_length a.length; have e2 := vlen_length b.length
  simp only [vecs, vec, List.flatMap_cons, List.flatMap_nil, List.append_nil, List.length_append]; omega
theorem vecsB_2 {a b : List UInt8} (h1 : a.length ≤ 65536) (h2 : b.length ≤ 65536) : vecsB [a, b] = vec a ++ vec b := by
  unfold vecsB
  rw [if_pos (by intro y hy; simp only [List.mem_cons, List.not_mem_nil, or_false] at hy; rcases hy with rfl | rfl <;> omega)]
  simp [vecs]
set_option maxRecDepth 100000 in
set_option maxHeartbeats 1000000 in
theorem gput_any (sv iv : Value) (ss : List Tri) (info : List UInt8) (w : World) (hs : RdT w sv ss) (hi : RdB w iv info) (hsm : ∀ x ∈ ss, x.1.length ≤ 140737488351232 ∧ x.2.1.length ≤ 140737488351232 ∧ x.2.2.length ≤ 140737488351232) : Rets Try.prog 9 [.agg [sv, iv].toArray] w (fun v w' => ∃ u, v = .tuple #[u, .int .i64 (welE ss info)] ∧ OwnB w' w.heap.size u (welB ss info) ∧ Keep [] w w') := by
  have hB : Keep [] w w := Keep.refl _ _
  obtain ⟨css, hEl, hsl⟩ := hs
  refine rets_of_tw Try.func9 rfl (by decide) Try.ntmps9 rfl (fun fin _ hfin => ?_)
  refine tw_seq ?_
  refine tw_region ?_
  refine ow_d (d_box (cs := [sv, iv]) rfl rfl) rfl ?_
  rintro _ w1 ⟨b1, rfl, eb1, hb1, k1, z1⟩
  have ge_b1 : w.heap.size ≤ b1 := by have := hB.size; omega
  replace hB := hB.trans k1
  clear eb1 z1
  refine ow_g (g_as rfl) rfl ?_
  refine ow_g (g_as rfl) rfl ?_
  refine ow_nil ?_
  refine tw_seq ?_
  refine tw_seq ?_
  refine tw_region ?_
  refine ow_g (g_faE 0 Try.underlying29 rfl ty27 (by decide) rfl rfl) rfl ?_
  refine ow_g (g_ldb sc27 rfl hb1 rfl) rfl ?_
  refine ow_g (g_len Try.underlying27 rfl (by first | assumption | exact Own.rd (by assumption) | exact Rd.keep0 (by assumption) hB | exact Own.rd (Own.keep0 (by assumption) hB))) rfl ?_
  refine ow_g (g_lt rfl rfl) rfl ?_
  refine ow_g (g_mv rfl) rfl ?_
  refine ow_grp 12 false rfl (fun c1 hgc1 => ?_)
  refine ow_gg [(1, _)] (grd1 rfl rfl rfl hgc1) ⟨und0 rfl, trivial⟩ (fun hw1 => g_faE 0 Try.underlying29 rfl ty27 (by decide) rfl rfl) rfl ?_
  refine ow_gg [(13, _)] (grd1 rfl rfl rfl hgc1) ⟨und1 rfl, trivial⟩ (fun hw2 => g_ldb sc27 rfl hb1 rfl) rfl ?_
  refine ow_gg [(14, _)] (grd1 rfl rfl rfl hgc1) ⟨und1 rfl, trivial⟩ (fun hw3 => g_len Try.underlying27 rfl (by first | assumption | exact Own.rd (by assumption) | exact Rd.keep0 (by assumption) hB | exact Own.rd (Own.keep0 (by assumption) hB))) rfl ?_
  refine ow_gg [(15, _)] (grd1 rfl rfl rfl hgc1) ⟨und1 rfl, trivial⟩ (fun hw4 => g_gt rfl rfl) rfl ?_
  refine ow_g (g_por rfl rfl hgc1) rfl ?_
  refine ow_g (g_mv rfl) rfl ?_
  refine ow_grp 18 false rfl (fun c2 hgc2 => ?_)
  refine ow_gg [(1, _)] (grd1 rfl rfl rfl hgc2) ⟨und0 rfl, trivial⟩ (fun hw5 => g_faE 1 Try.underlying29 rfl ty23 (by decide) rfl rfl) rfl ?_
  refine ow_gg [(19, _)] (grd1 rfl rfl rfl hgc2) ⟨und1 rfl, trivial⟩ (fun hw6 => g_ldb sc23 rfl hb1 rfl) rfl ?_
  refine ow_gg [(20, _)] (grd1 rfl rfl rfl hgc2) ⟨und1 rfl, trivial⟩ (fun hw7 => g_len Try.underlying23 rfl (by first | assumption | exact Own.rd (by assumption) | exact Rd.keep0 (by assumption) hB | exact Own.rd (Own.keep0 (by assumption) hB))) rfl ?_
  refine ow_gg [(21, _)] (grd1 rfl rfl rfl hgc2) ⟨und1 rfl, trivial⟩ (fun hw8 => g_gt rfl rfl) rfl ?_
  refine ow_g (g_por rfl rfl hgc2) rfl ?_
  refine ow_nil ?_
  refine tw_keep [(1, _), (23, _)] ⟨rfl, rfl, trivial⟩ ?_
  refine tw_cond rfl (fun hc1 => ?_) (fun hc1 => ?_)
  · -- yes
    have hd1 := hc1
    try (simp only [Bool.and_eq_true, Bool.or_eq_true, decide_eq_true_eq, Bool.and_eq_false_iff, Bool.or_eq_false_iff, decide_eq_false_iff_not, Bool.not_eq_true', Bool.not_eq_false', Bool.not_eq_true, Bool.not_eq_false, ne_eq, Decidable.not_not, decide_true, decide_false, Bool.true_and, Bool.false_and, Bool.or_false, Bool.false_or, not_true_eq_false, false_or, or_false, true_and, and_true, not_false_eq_true, reduceCtorEq] at hd1)
    refine tw_seq ?_
    refine tw_region ?_
    refine ow_g (g_as rfl) rfl ?_
    refine ow_g (g_as rfl) rfl ?_
    refine ow_nil ?_
    refine tw_ret2 hfin Try.results9 rfl rfl ?_
    have hbad : welOk ss info = false := bad_len (by omega)
    exact ⟨_, by unfold welE; rw [hbad]; rfl, by unfold welB; rw [hbad]; exact own_nil _ _ _ _, hB⟩
  · -- no
    have hd2 := hc1
    try (simp only [Bool.and_eq_true, Bool.or_eq_true, decide_eq_true_eq, Bool.and_eq_false_iff, Bool.or_eq_false_iff, decide_eq_false_iff_not, Bool.not_eq_true', Bool.not_eq_false', Bool.not_eq_true, Bool.not_eq_false, ne_eq, Decidable.not_not, decide_true, decide_false, Bool.true_and, Bool.false_and, Bool.or_false, Bool.false_or, not_true_eq_false, false_or, or_false, true_and, and_true, not_false_eq_true, reduceCtorEq] at hd2)
    refine tw_skip ?_
    refine tw_seq ?_
    refine tw_region ?_
    refine ow_g (g_as rfl) rfl ?_
    refine ow_nil ?_
    refine tw_seq ?_
    refine tw_region ?_
    refine ow_g (g_as rfl) rfl ?_
    refine ow_nil ?_
    refine tw_seq ?_
    refine tw_seq ?_
    refine tw_region ?_
    refine ow_g (g_faE 0 Try.underlying29 rfl ty27 (by decide) rfl rfl) rfl ?_
    refine ow_g (g_ldb sc27 rfl hb1 rfl) rfl ?_
    refine ow_g (g_len Try.underlying27 rfl (by first | assumption | exact Own.rd (by assumption) | exact Rd.keep0 (by assumption) hB | exact Own.rd (Own.keep0 (by assumption) hB))) rfl ?_
    refine ow_g (g_mv rfl) rfl ?_
    refine ow_nil ?_
    refine tw_block ?_
    refine tw_loop (Γ := Nat × Value) (fun ⟨i, o⟩ => [(1, .pointer (some ⟨b1, 0, none⟩)), (4, .int .i64 (triN (ss.take i) : Int)), (5, o), (25, sv), (26, .int .i64 (ss.length : Int)), (27, .int .i64 (i : Int))]) (fun ⟨i, o⟩ W => i ≤ ss.length ∧ (ss.take i).all triOk = true ∧ triN (ss.take i) ≤ 60000 ∧ OwnB W (b1 + 1) o ((ss.take i).flatMap triB) ∧ Bk W b1 29 [sv, iv] ∧ Keep [] w W) (fun ⟨i, o⟩ => ss.length - i) ⟨0, .slice none 0 0⟩ ⟨rfl, rfl, rfl, rfl, rfl, rfl, trivial⟩ (⟨by omega, by simp, by simp [triN], own_nil _ _ _ _, hb1, hB⟩) ?_
    rintro ⟨i, o⟩ w2 ⟨hi0, hall, htot, ow, hbx1, hB⟩
    refine tw_keep [(1, .pointer (some ⟨b1, 0, none⟩)), (4, .int .i64 (triN (ss.take i) : Int)), (5, o), (25, sv), (26, .int .i64 (ss.length : Int)), (27, .int .i64 (i : Int))] ⟨rfl, rfl, rfl, rfl, rfl, rfl, trivial⟩ ?_
    have u_ow := ow.blk
    refine tw_seq ?_
    refine tw_region ?_
    refine ow_g (g_lt rfl rfl) rfl ?_
    refine ow_nil ?_
    refine tw_seq ?_
    refine tw_if rfl (fun hc2 => ?_) (fun hc2 => ?_)
    · -- yes
      refine tw_skip ?_
      refine tw_seq ?_
      refine tw_block ?_
      refine tw_seq ?_
      refine tw_region ?_
      obtain ⟨x, r, e, b, hx, hd, hr, he, hb0⟩ := tri_at hEl (i := i) (by omega)
      have hxs := hsm x (List.mem_of_getElem? hx)
      refine ow_g (g_ix Try.underlying27 ty98 rfl (by first | assumption | exact Own.rd (by assumption) | exact Rd.keep0 (by assumption) hB | exact Own.rd (Own.keep0 (by assumption) hB)) rfl (by omega)) rfl ?_
      refine ow_g (g_ldae (cs' := [r, e, b]) ag98 ty98 rfl (Rd.keep0 hsl hB) hd rfl (by decide)) rfl ?_
      refine ow_d (d_alloc ty98) rfl ?_
      rintro _ w3 ⟨b2, rfl, eb2, hb2, k2, z2⟩
      have ge_b2 : w.heap.size ≤ b2 := by have := hB.size; omega
      have sb_b2_ow := fun x hx => (show x ≠ b2 from by have := (ow.blk x hx).2; omega)
      have ne_b1_b2 : b1 ≠ b2 := by have := hbx1.lt; omega
      replace ow := ow.keep0 k2
      replace hbx1 := hbx1.keep0 k2
      replace hB := hB.trans k2
      clear eb2 z2
      refine ow_d0 (d_sta ty98 rfl rfl rfl (by simp only [List.forall_mem_cons]; refine ⟨(by first | rfl | exact Rd.one (by first | assumption | exact Own.rd (by assumption) | exact Rd.keep0 (by assumption) hB | exact Own.rd (Own.keep0 (by assumption) hB))), (by first | rfl | exact Rd.one (by first | assumption | exact Own.rd (by assumption) | exact Rd.keep0 (by assumption) hB | exact Own.rd (Own.keep0 (by assumption) hB))), (by first | rfl | exact Rd.one (by first | assumption | exact Own.rd (by assumption) | exact Rd.keep0 (by assumption) hB | exact Own.rd (Own.keep0 (by assumption) hB))), fun v hv => by cases hv⟩) hb2 rfl) ?_
      rintro _ w4 ⟨hb3, k3, z3⟩
      replace ow := ow.keep k3 (fun x hx hm => sb_b2_ow x hx (List.mem_singleton.1 hm))
      replace hbx1 := hbx1.keep k3 (fun hm => absurd (List.mem_singleton.1 hm) ne_b1_b2)
      replace hB := hB.new k3 (fun x hx => .inl ((List.mem_singleton.1 hx) ▸ ge_b2))
      clear z3
      replace hb3 : Bk w4 b2 _ [r, e, b] := hb3
      refine ow_nil ?_
      refine tw_seq ?_
      refine tw_seq ?_
      refine tw_region ?_
      refine ow_g (g_mv rfl) rfl ?_
      refine ow_g (g_faE 2 Try.underlying98 rfl ty23 (by decide) rfl rfl) rfl ?_
      refine ow_g (g_ldb sc23 rfl hb3 rfl) rfl ?_
      refine ow_g (g_len Try.underlying23 rfl (by first | assumption | exact Own.rd (by assumption) | exact Rd.keep0 (by assumption) hB | exact Own.rd (Own.keep0 (by assumption) hB))) rfl ?_
      refine ow_g (g_add rfl rfl (by omega)) rfl ?_
      have hnt := triN_take hx
      refine ow_g (v := .int .i64 (triN (ss.take (i + 1)) : Int)) (by rw [show ((triN (ss.take (i + 1)) : Nat) : Int) = (triN (ss.take i) : Int) + (70 + (x.2.2.length : Int)) by omega]; exact g_add rfl rfl (by omega)) rfl ?_
      refine ow_g (g_as rfl) rfl ?_
      refine ow_nil ?_
      refine tw_seq ?_
      refine tw_region ?_
      refine ow_g (g_faE 0 Try.underlying98 rfl ty23 (by decide) rfl rfl) rfl ?_
      refine ow_g (g_ldb sc23 rfl hb3 rfl) rfl ?_
      refine ow_g (g_len Try.underlying23 rfl (by first | assumption | exact Own.rd (by assumption) | exact Rd.keep0 (by assumption) hB | exact Own.rd (Own.keep0 (by assumption) hB))) rfl ?_
      refine ow_g (g_ne rfl rfl) rfl ?_
      refine ow_g (g_mv rfl) rfl ?_
      refine ow_grp 41 false rfl (fun c3 hgc3 => ?_)
      refine ow_gg [(7, _)] (grd1 rfl rfl rfl hgc3) ⟨und0 rfl, trivial⟩ (fun hw9 => g_faE 1 Try.underlying98 rfl ty23 (by decide) rfl rfl) rfl ?_
      refine ow_gg [(42, _)] (grd1 rfl rfl rfl hgc3) ⟨und1 rfl, trivial⟩ (fun hw10 => g_ldb sc23 rfl hb3 rfl) rfl ?_
      refine ow_gg [(43, _)] (grd1 rfl rfl rfl hgc3) ⟨und1 rfl, trivial⟩ (fun hw11 => g_len Try.underlying23 rfl (by first | assumption | exact Own.rd (by assumption) | exact Rd.keep0 (by assumption) hB | exact Own.rd (Own.keep0 (by assumption) hB))) rfl ?_
      refine ow_gg [(44, _)] (grd1 rfl rfl rfl hgc3) ⟨und1 rfl, trivial⟩ (fun hw12 => g_ne rfl rfl) rfl ?_
      refine ow_g (g_por rfl rfl hgc3) rfl ?_
      refine ow_g (g_mv rfl) rfl ?_
      refine ow_grp 47 false rfl (fun c4 hgc4 => ?_)
      refine ow_gg [(7, _)] (grd1 rfl rfl rfl hgc4) ⟨und0 rfl, trivial⟩ (fun hw13 => g_faE 2 Try.underlying98 rfl ty23 (by decide) rfl rfl) rfl ?_
      refine ow_gg [(48, _)] (grd1 rfl rfl rfl hgc4) ⟨und1 rfl, trivial⟩ (fun hw14 => g_ldb sc23 rfl hb3 rfl) rfl ?_
      refine ow_gg [(49, _)] (grd1 rfl rfl rfl hgc4) ⟨und1 rfl, trivial⟩ (fun hw15 => g_len Try.underlying23 rfl (by first | assumption | exact Own.rd (by assumption) | exact Rd.keep0 (by assumption) hB | exact Own.rd (Own.keep0 (by assumption) hB))) rfl ?_
      refine ow_gg [(50, _)] (grd1 rfl rfl rfl hgc4) ⟨und1 rfl, trivial⟩ (fun hw16 => g_gt rfl rfl) rfl ?_
      refine ow_g (g_por rfl rfl hgc4) rfl ?_
      refine ow_g (g_mv rfl) rfl ?_
      refine ow_grp 53 false rfl (fun c5 hgc5 => ?_)
      refine ow_gg [(4, _)] (grd1 rfl rfl rfl hgc5) ⟨und0 rfl, trivial⟩ (fun hw17 => g_mv rfl) rfl ?_
      refine ow_gg [(54, _)] (grd1 rfl rfl rfl hgc5) ⟨und1 rfl, trivial⟩ (fun hw18 => g_gt rfl rfl) rfl ?_
      refine ow_g (g_por rfl rfl hgc5) rfl ?_
      refine ow_nil ?_
      refine tw_keep [(1, _), (4, _), (5, _), (25, _), (26, _), (27, _), (7, _), (56, _)] ⟨rfl, rfl, rfl, rfl, rfl, rfl, rfl, rfl, trivial⟩ ?_
      refine tw_cond rfl (fun hc3 => ?_) (fun hc3 => ?_)
      · -- yes
        have hd3 := hc3
        try (simp only [Bool.and_eq_true, Bool.or_eq_true, decide_eq_true_eq, Bool.and_eq_false_iff, Bool.or_eq_false_iff, decide_eq_false_iff_not, Bool.not_eq_true', Bool.not_eq_false', Bool.not_eq_true, Bool.not_eq_false, ne_eq, Decidable.not_not, decide_true, decide_false, Bool.true_and, Bool.false_and, Bool.or_false, Bool.false_or, not_true_eq_false, false_or, or_false, true_and, and_true, not_false_eq_true, reduceCtorEq] at hd3)
        refine tw_seq ?_
        refine tw_region ?_
        refine ow_g (g_as rfl) rfl ?_
        refine ow_g (g_as rfl) rfl ?_
        refine ow_nil ?_
        refine tw_ret2 hfin Try.results9 rfl rfl ?_
        have hbad : welOk ss info = false := by
          by_cases hok : triOk x = true
          · exact bad_sum (i + 1) (by have := triOk_iff.1 hok; omega)
          · exact bad_at hx (by simpa using hok)
        exact ⟨_, by unfold welE; rw [hbad]; rfl, by unfold welB; rw [hbad]; exact own_nil _ _ _ _, hB⟩
      · -- no
        have hd4 := hc3
        try (simp only [Bool.and_eq_true, Bool.or_eq_true, decide_eq_true_eq, Bool.and_eq_false_iff, Bool.or_eq_false_iff, decide_eq_false_iff_not, Bool.not_eq_true', Bool.not_eq_false', Bool.not_eq_true, Bool.not_eq_false, ne_eq, Decidable.not_not, decide_true, decide_false, Bool.true_and, Bool.false_and, Bool.or_false, Bool.false_or, not_true_eq_false, false_or, or_false, true_and, and_true, not_false_eq_true, reduceCtorEq] at hd4)
        refine tw_skip ?_
        refine tw_region ?_
        have hok : triOk x = true := triOk_iff.2 (by omega)
        have hfl := flat_len hall
        have htl := triB_len hok
        have hvl : (vecsB [x.1, x.2.1, x.2.2]).length ≤ 30070 := by rw [vecsB_tri hok]; omega
        refine ow_g (g_mv rfl) rfl ?_
        refine ow_g (g_faE 0 Try.underlying98 rfl ty23 (by decide) rfl rfl) rfl ?_
        refine ow_g (g_ldb sc23 rfl hb3 rfl) rfl ?_
        refine ow_g (g_faE 1 Try.underlying98 rfl ty23 (by decide) rfl rfl) rfl ?_
        refine ow_g (g_ldb sc23 rfl hb3 rfl) rfl ?_
        refine ow_g (g_faE 2 Try.underlying98 rfl ty23 (by decide) rfl rfl) rfl ?_
        refine ow_g (g_ldb sc23 rfl hb3 rfl) rfl ?_
        refine ow_d (d_bsL (m := 3) (ls := [x.1, x.2.1, x.2.2]) (xs := [.tmp 59, .tmp 61, .tmp 63]) (us := [_, _, _]) Try.underlying102 ty23 rfl rfl (rdL_cons (by first | exact Rd.nil _ _ | exact (by first | assumption | exact Own.rd (by assumption) | exact Rd.keep0 (by assumption) hB | exact Own.rd (Own.keep0 (by assumption) hB))) (rdL_cons (by first | exact Rd.nil _ _ | exact (by first | assumption | exact Own.rd (by assumption) | exact Rd.keep0 (by assumption) hB | exact Own.rd (Own.keep0 (by assumption) hB))) (rdL_cons (by first | exact Rd.nil _ _ | exact (by first | assumption | exact Own.rd (by assumption) | exact Rd.keep0 (by assumption) hB | exact Own.rd (Own.keep0 (by assumption) hB))) (rdL_nil _)))) rfl rfl) rfl ?_
        rintro v1 w5 ⟨sl1, k4⟩
        replace ow := ow.keep0 k4
        replace hbx1 := hbx1.keep0 k4
        replace hb3 := hb3.keep0 k4
        replace hB := hB.trans k4
        refine ow_d (d_call (vs := [_]) rfl (gvectors_any _ _ _ _ (by assumption) (vecs_len3 (by omega) (by omega) (by omega)))) rfl ?_
        rintro v2 w6 ⟨o2, k5⟩
        have gl_o2 := hB.size
        have sb_b1_o2 := fun x hx => (show x ≠ b1 from by have h1 := (o2.blk x hx).1; have h2 := hbx1.lt; omega)
        have sb_b2_o2 := fun x hx => (show x ≠ b2 from by have h1 := (o2.blk x hx).1; have h2 := hb3.lt; omega)
        replace ow := ow.keep0 k5
        replace hbx1 := hbx1.keep0 k5
        replace hb3 := hb3.keep0 k5
        replace sl1 := sl1.keep0 k5
        replace hB := hB.trans k5
        have u_o2 := o2.blk
        have lt_o3 := hbx1.lt
        refine ow_d (d_appB Try.underlying23 ty5 rfl ow rfl (show RdB _ _ _ from o2.rd) (by first | omega | (simp only [List.length_append] at *; omega)) (by omega)) rfl ?_
        rintro v3 w7 ⟨o3, k6, lb1, _⟩
        replace hB := hB.new k6 (fun x hx => .inl (Nat.le_trans ge_b1 (Nat.le_of_lt (ow.blk x hx).1)))
        replace hbx1 := hbx1.keep k6 (fun hm => absurd (ow.blk _ hm).1 (Nat.lt_irrefl _))
        refine ow_g (g_as rfl) rfl ?_
        refine ow_nil ?_
        refine tw_keep [(1, _), (4, _), (5, _), (25, _), (26, _), (27, _)] ⟨rfl, rfl, rfl, rfl, rfl, rfl, trivial⟩ ?_
        refine tw_b ?_
        refine tw_region ?_
        refine ow_g (g_add rfl rfl (by omega)) rfl ?_
        refine ow_g (g_mv rfl) rfl ?_
        refine ow_nil ?_
        refine tw_inv (Γ := Nat × Value) ⟨i + 1, v3⟩ ⟨rfl, rfl, rfl, rfl, rfl, rfl, trivial⟩ (by (try dsimp only); omega) (⟨by omega, all_take hx hall hok, by omega, by have hh := o3; unfold OwnB; rw [flat_take hx, ← vecsB_tri hok, List.length_append]; exact hh, hbx1, hB⟩)
    · -- no
      refine tw_exit rfl ?_
      refine tw_seq ?_
      refine tw_region ?_
      have hfl := flat_len hall
      refine ow_g (g_mv rfl) rfl ?_
      refine ow_g (g_faE 1 Try.underlying29 rfl ty23 (by decide) rfl rfl) rfl ?_
      refine ow_g (g_ldb sc23 rfl hbx1 rfl) rfl ?_
      refine ow_d (d_bsL (m := 2) (ls := [(ss.take i).flatMap triB, info]) (xs := [.tmp 68, .tmp 70]) (us := [_, _]) Try.underlying102 ty23 rfl rfl (rdL_cons (by first | exact Rd.nil _ _ | exact (by first | assumption | exact Own.rd (by assumption) | exact Rd.keep0 (by assumption) hB | exact Own.rd (Own.keep0 (by assumption) hB))) (rdL_cons (by first | exact Rd.nil _ _ | exact (by first | assumption | exact Own.rd (by assumption) | exact Rd.keep0 (by assumption) hB | exact Own.rd (Own.keep0 (by assumption) hB))) (rdL_nil _))) rfl rfl) rfl ?_
      rintro v4 w8 ⟨sl2, k7⟩
      replace ow := ow.keep0 k7
      replace hbx1 := hbx1.keep0 k7
      replace hB := hB.trans k7
      refine ow_d (d_call (vs := [_]) rfl (gvectors_any _ _ _ _ (by assumption) (vecs_len2 (by omega) (by omega)))) rfl ?_
      rintro v5 w9 ⟨o5, k8⟩
      have gl_o5 := hB.size
      have sb_b1_o5 := fun x hx => (show x ≠ b1 from by have h1 := (o5.blk x hx).1; have h2 := hbx1.lt; omega)
      replace ow := ow.keep0 k8
      replace hbx1 := hbx1.keep0 k8
      replace sl2 := sl2.keep0 k8
      replace hB := hB.trans k8
      have u_o5 := o5.blk
      refine ow_g (g_as rfl) rfl ?_
      refine ow_g (g_as rfl) rfl ?_
      refine ow_nil ?_
      refine tw_keep [(2, _), (3, _)] ⟨rfl, rfl, trivial⟩ ?_
      refine tw_ret2 hfin Try.results9 rfl rfl ?_
      have e : ss.take i = ss := List.take_of_length_le (by omega)
      rw [e] at hall htot
      have hfl2 := flat_len hall
      have hgood := good_wel (info := info) (by omega) (by omega) (by omega) hall htot
      have hh := o5
      rw [e, vecsB_2 (by omega) (by omega)] at hh
      exact ⟨_, by unfold welE; rw [hgood]; rfl, by unfold welB; rw [hgood]; exact hh.lo gl_o5, hB⟩
end Go.Proofs.Ytimeclfplaonkaa.W
namespace Go.Proofs.Ytimeclfplaonkaa.W
open Go Go.Eng Go.Byt
set_option linter.unusedVariables false
set_option linter.unusedSimpArgs false
end Go.Proofs.Ytimeclfplaonkaa.W
set_option linter.unusedVariables false
set_option linter.unusedSimpArgs false
namespace Go.Byt
theorem rNum_be {b n : Int} {s : Nat} (hb : ¬ b < 0) (h0 : 0 ≤ n) (h1 : n < 256 ^ s) (r : List UInt8) (h8 : (s : Int) = 8 → ((be n s ++ r).getD 0 0).toNat < 64) : rNum b (be n s ++ r) 0 (s : Int) = (n, r, 0) := by
  unfold rNum
  have hl : (be n s).length = s := be_length _ _
  rw [if_neg (by decide), if_neg hb, if_neg (by rw [List.length_append, hl]; omega), if_neg (fun h => by have := h8 h.1; omega), Int.toNat_natCast, List.take_left' hl, List.drop_left' hl, num_be s n h0 h1]
theorem rNum_inv {b n e : Int} {s : Nat} {rest r : List UInt8} (hb : ¬ b < 0) (h : rNum b rest e (s : Int) = (n, r, 0)) : e = 0 ∧ rest = be n s ++ r ∧ 0 ≤ n ∧ n < 256 ^ s := by
  unfold rNum at h
  by_cases he : e = 0
  · subst he
    rw [if_neg (by decide), if_neg hb] at h
    by_cases hl : (rest.length : Int) < (s : Int)
    · rw [if_pos hl] at h; simp at h
    · rw [if_neg hl] at h
      by_cases h8 : (s : Int) = 8 ∧ 64 ≤ (rest.getD 0 0).toNat
      · rw [if_pos h8] at h; simp at h
      · rw [if_neg h8, Int.toNat_natCast] at h
        simp only [Prod.mk.injEq] at h
        obtain ⟨h1, h2, _⟩ := h
        have hlen : (rest.take s).length = s := by rw [List.length_take]; omega
        have hbn := num_bound (rest.take s)
        have hbe := be_num (rest.take s)
        rw [hlen] at hbn hbe
        rw [h1] at hbn hbe
        exact ⟨rfl, by rw [hbe, ← h2, List.take_append_drop], hbn.1, hbn.2⟩
  · rw [if_pos he] at h; simp at h; exact absurd h.2.2 he
structure Ctx where
  g : List UInt8
  ep : Int
  tr : List UInt8
  tx : List UInt8
def ctxOk (c : Ctx) : Bool := decide (c.g.length ≤ 255) && decide (0 ≤ c.ep) && decide (c.ep < 4294967296) && decide (c.tr.length ≤ 255) && decide (c.tx.length ≤ 255)
theorem ctxOk_iff {c : Ctx} : ctxOk c = true ↔ c.g.length ≤ 255 ∧ 0 ≤ c.ep ∧ c.ep < 4294967296 ∧ c.tr.length ≤ 255 ∧ c.tx.length ≤ 255 := by
  unfold ctxOk; simp only [Bool.and_eq_true, decide_eq_true_eq, and_assoc]
def ctxT (c : Ctx) : List UInt8 := be 65537 4 ++ (vec c.g ++ (be c.ep 8 ++ (vec c.tr ++ (vec c.tx ++ vec []))))
def ctxR (b : List UInt8) : Int × Ctx × List UInt8 × Int :=
  let a := rNum 32 b 0 4
  let g := rVec a.2.1 a.2.2
  let ep := rNum 62 g.2.1 g.2.2 8
  let tr := rVec ep.2.1 ep.2.2
  let tx := rVec tr.2.1 tr.2.2
  (a.1, ⟨g.1, ep.1, tr.1, tx.1⟩, tx.2.1, tx.2.2)
theorem be8_top {n : Int} (h0 : 0 ≤ n) (h1 : n < 4294967296) (r : List UInt8) : ((be n 8 ++ r).getD 0 0).toNat < 64 := by
  have : (be n 8 ++ r).getD 0 0 = byteAt n 7 := by simp [be, List.range_succ]
  rw [this]
  have hb := byteAt_toNat n 7
  rw [show (2 : Int) ^ (8 * 7) = 72057594037927936 from rfl] at hb
  omega
theorem ctxR_T {c : Ctx} (h : ctxOk c = true) (r : List UInt8) : ctxR (ctxT c ++ r) = (65537, c, vec [] ++ r, 0) := by
  obtain ⟨h1, h2, h3, h4, h5⟩ := ctxOk_iff.1 h
  unfold ctxR ctxT
  have e1 : rNum 32 (be 65537 4 ++ (vec c.g ++ (be c.ep 8 ++ (vec c.tr ++ (vec c.tx ++ vec [])))) ++ r) 0 4 = (65537, vec c.g ++ (be c.ep 8 ++ (vec c.tr ++ (vec c.tx ++ (vec [] ++ r)))), 0) := by
    have := rNum_be (b := 32) (n := 65537) (s := 4) (by decide) (by decide) (by decide) (vec c.g ++ (be c.ep 8 ++ (vec c.tr ++ (vec c.tx ++ (vec [] ++ r))))) (fun h => absurd h (by decide))
    rw [← this]; congr 1; simp
  rw [e1]
  dsimp only
  rw [rVec_vec (by omega)]
  dsimp only
  have e2 := rNum_be (b := 62) (n := c.ep) (s := 8) (by decide) h2 (Int.lt_of_lt_of_le h3 (by decide)) (vec c.tr ++ (vec c.tx ++ (vec [] ++ r))) (fun _ => be8_top h2 h3 _)
  rw [show ((8 : Nat) : Int) = 8 from rfl] at e2
  rw [e2]
  dsimp only
  rw [rVec_vec (by omega)]
  dsimp only
  rw [rVec_vec (by omega)]
theorem ctxR_inv {b r : List UInt8} {v : Int} {c : Ctx} (h : ctxR b = (v, c, r, 0)) : b = be v 4 ++ (vec c.g ++ (be c.ep 8 ++ (vec c.tr ++ (vec c.tx ++ r)))) := by
  unfold ctxR at h
  obtain ⟨n, ra, ea, ha⟩ : ∃ n ra ea, rNum 32 b 0 4 = (n, ra, ea) := ⟨_, _, _, rfl⟩
  rw [ha] at h; dsimp only at h
  obtain ⟨g, rg, eg, hg⟩ : ∃ g rg eg, rVec ra ea = (g, rg, eg) := ⟨_, _, _, rfl⟩
  rw [hg] at h; dsimp only at h
  obtain ⟨ep, re, ee, he⟩ : ∃ ep re ee, rNum 62 rg eg 8 = (ep, re, ee) := ⟨_, _, _, rfl⟩
  rw [he] at h; dsimp only at h
  obtain ⟨tr, rt, et, ht⟩ : ∃ tr rt et, rVec re ee = (tr, rt, et) := ⟨_, _, _, rfl⟩
  rw [ht] at h; dsimp only at h
  obtain ⟨tx, rx, ex, hx⟩ : ∃ tx rx ex, rVec rt et = (tx, rx, ex) := ⟨_, _, _, rfl⟩
  rw [hx] at h
  simp only [Prod.mk.injEq] at h
  obtain ⟨rfl, rfl, rfl, rfl⟩ := h
  obtain ⟨rfl, h5, _⟩ := rVec_inv hx
  obtain ⟨rfl, h4, _⟩ := rVec_inv ht
  obtain ⟨rfl, h3, _⟩ := rNum_inv (s := 8) (by decide) he
  obtain ⟨rfl, h2, _⟩ := rVec_inv hg
  obtain ⟨_, h1, _⟩ := rNum_inv (s := 4) (by decide) ha
  rw [h1, h2, h3, h4, h5]
def cgOk (b : List UInt8) : Bool := ctxOk (ctxR b).2.1 && decide (ctxT (ctxR b).2.1 = b)
theorem cgOk_iff (b : List UInt8) : cgOk b = true ↔ (let m := rVec (ctxR b).2.2.1 (ctxR b).2.2.2
    (m.2.1 = [] ∧ m.2.2 = 0) ∧ (ctxR b).1 = 65537 ∧ m.1 = [] ∧ ctxOk (ctxR b).2.1 = true) := by
  unfold cgOk
  rw [Bool.and_eq_true, decide_eq_true_eq]
  constructor
  · rintro ⟨ho, hb⟩
    obtain ⟨c, hc⟩ : ∃ c, c = (ctxR b).2.1 := ⟨_, rfl⟩
    rw [← hc] at ho hb
    have h := ctxR_T ho []
    rw [List.append_nil, hb] at h
    rw [h]
    have hv : rVec (vec [] ++ []) 0 = ([], [], 0) := rVec_vec (by simp) []
    dsimp only
    rw [hv]
    exact ⟨⟨rfl, rfl⟩, rfl, rfl, ho⟩
  · rintro ⟨⟨hr, he⟩, hv, hm, ho⟩
    refine ⟨ho, ?_⟩
    obtain ⟨v, c, r, e, hR⟩ : ∃ v c r e, ctxR b = (v, c, r, e) := ⟨_, _, _, _, rfl⟩
    rw [hR] at hr he hv hm ho ⊢
    dsimp only at hr he hv hm ho ⊢
    have hV : rVec r e = ([], [], 0) := Prod.ext hm (Prod.ext hr he)
    obtain ⟨rfl, hr2, _⟩ := rVec_inv hV
    subst hv
    have := ctxR_inv hR
    rw [this, hr2]; unfold ctxT; simp
def ctxZ : Ctx := ⟨[], 0, [], []⟩
def cgC (b : List UInt8) : Ctx := bif cgOk b then (ctxR b).2.1 else ctxZ
def cgE (b : List UInt8) : Int := bif cgOk b then 0 else 21
theorem cg_T {c : Ctx} (h : ctxOk c = true) : cgC (ctxT c) = c ∧ cgE (ctxT c) = 0 := by
  have hR := ctxR_T h []
  rw [List.append_nil] at hR
  have hg : cgOk (ctxT c) = true := by unfold cgOk; rw [hR]; simp [h]
  unfold cgC cgE
  rw [hg, hR]; exact ⟨rfl, rfl⟩
theorem cg_inv {b : List UInt8} (h : cgE b = 0) : ctxOk (cgC b) = true ∧ ctxT (cgC b) = b := by
  unfold cgE at h
  cases hg : cgOk b
  · rw [hg] at h; exact absurd h (by decide)
  · have h1 := hg
    unfold cgOk at h1
    rw [Bool.and_eq_true, decide_eq_true_eq] at h1
    unfold cgC; rw [hg]; exact h1
theorem vec_le (xs : List UInt8) : (vec xs).length ≤ xs.length + 4 := by
  have := vlen_length xs.length
  unfold vec; rw [List.length_append]; omega
theorem ctxT_len {c : Ctx} (h : ctxOk c = true) : (ctxT c).length ≤ 65536 := by
  obtain ⟨h1, h2, h3, h4, h5⟩ := ctxOk_iff.1 h
  have e1 := vec_le c.g; have e2 := vec_le c.tr; have e3 := vec_le c.tx; have e4 := vec_le []
  unfold ctxT
  simp only [List.length_append, be_length, List.length_nil] at *; omega
structure Inf where
  c : Ctx
  tree : List UInt8
  conf : List UInt8
  outer : List UInt8
  signer : Int
  sig : List UInt8
def infOk (i : Inf) : Bool := ctxOk i.c && decide (i.tree.length ≤ 60000) && decide (i.conf.length = 32) && decide (i.outer.length = 32) && decide (0 ≤ i.signer) && decide (i.signer < 64) && decide (i.sig.length = 64)
theorem infOk_iff {i : Inf} : infOk i = true ↔ ctxOk i.c = true ∧ i.tree.length ≤ 60000 ∧ i.conf.length = 32 ∧ i.outer.length = 32 ∧ 0 ≤ i.signer ∧ i.signer < 64 ∧ i.sig.length = 64 := by
  unfold infOk; simp only [Bool.and_eq_true, decide_eq_true_eq, and_assoc]
def infT (i : Inf) : List UInt8 := vec (ctxT i.c) ++ (vec i.tree ++ (vec i.conf ++ (vec i.outer ++ (be i.signer 4 ++ vec i.sig))))
def infE (i : Inf) : Int := bif infOk i then 0 else 1
def infB (i : Inf) : List UInt8 := bif infOk i then infT i else []
def infR (b : List UInt8) : Inf × Int × List UInt8 × Int :=
  let a := rVec b 0
  let t := rVec a.2.1 a.2.2
  let co := rVec t.2.1 t.2.2
  let ou := rVec co.2.1 co.2.2
  let sn := rNum 32 ou.2.1 ou.2.2 4
  let sg := rVec sn.2.1 sn.2.2
  (⟨cgC a.1, t.1, co.1, ou.1, sn.1, sg.1⟩, cgE a.1, sg.2.1, sg.2.2)
def igOk (b : List UInt8) : Bool := infOk (infR b).1 && decide (infT (infR b).1 = b)
theorem infR_T {i : Inf} (h : infOk i = true) : infR (infT i) = (i, 0, [], 0) := by
  obtain ⟨h1, h2, h3, h4, h5, h6, h7⟩ := infOk_iff.1 h
  have hl := ctxT_len h1
  unfold infR infT
  rw [rVec_vec hl]
  dsimp only
  rw [rVec_vec (by omega)]
  dsimp only
  rw [rVec_vec (by omega)]
  dsimp only
  rw [rVec_vec (by omega)]
  dsimp only
  have e2 := rNum_be (b := 32) (n := i.signer) (s := 4) (by decide) h5 (Int.lt_of_lt_of_le h6 (by decide)) (vec i.sig) (fun h => absurd h (by decide))
  rw [show ((4 : Nat) : Int) = 4 from rfl] at e2
  rw [e2]
  dsimp only
  have e3 := rVec_vec (xs := i.sig) (by omega) []
  rw [List.append_nil] at e3
  rw [e3]
  dsimp only
  rw [(cg_T h1).1, (cg_T h1).2]
theorem infR_inv {b r : List UInt8} {i : Inf} (h : infR b = (i, 0, r, 0)) : b = infT i ++ r := by
  unfold infR at h
  obtain ⟨cb, ra, ea, ha⟩ : ∃ cb ra ea, rVec b 0 = (cb, ra, ea) := ⟨_, _, _, rfl⟩
  rw [ha] at h; dsimp only at h
  obtain ⟨tr, rt, et, ht⟩ : ∃ tr rt et, rVec ra ea = (tr, rt, et) := ⟨_, _, _, rfl⟩
  rw [ht] at h; dsimp only at h
  obtain ⟨co, rc, ec, hc⟩ : ∃ co rc ec, rVec rt et = (co, rc, ec) := ⟨_, _, _, rfl⟩
  rw [hc] at h; dsimp only at h
  obtain ⟨ou, ro, eo, ho⟩ : ∃ ou ro eo, rVec rc ec = (ou, ro, eo) := ⟨_, _, _, rfl⟩
  rw [ho] at h; dsimp only at h
  obtain ⟨sn, rs, es, hs⟩ : ∃ sn rs es, rNum 32 ro eo 4 = (sn, rs, es) := ⟨_, _, _, rfl⟩
  rw [hs] at h; dsimp only at h
  obtain ⟨sg, rg, eg, hg⟩ : ∃ sg rg eg, rVec rs es = (sg, rg, eg) := ⟨_, _, _, rfl⟩
  rw [hg] at h
  simp only [Prod.mk.injEq] at h
  obtain ⟨rfl, hce, rfl, rfl⟩ := h
  obtain ⟨rfl, h6, _⟩ := rVec_inv hg
  obtain ⟨rfl, h5, _⟩ := rNum_inv (s := 4) (by decide) hs
  obtain ⟨rfl, h4, _⟩ := rVec_inv ho
  obtain ⟨rfl, h3, _⟩ := rVec_inv hc
  obtain ⟨rfl, h2, _⟩ := rVec_inv ht
  obtain ⟨_, h1, _⟩ := rVec_inv ha
  have hcb := (cg_inv hce).2
  unfold infT
  dsimp only
  rw [hcb, h1, h2, h3, h4, h5, h6]; simp
theorem igOk_iff (b : List UInt8) : igOk b = true ↔ (infR b).2.1 = 0 ∧ ((infR b).2.2.1 = [] ∧ (infR b).2.2.2 = 0) ∧ infOk (infR b).1 = true := by
  unfold igOk
  rw [Bool.and_eq_true, decide_eq_true_eq]
  constructor
  · rintro ⟨ho, hb⟩
    obtain ⟨i, hi⟩ : ∃ i, i = (infR b).1 := ⟨_, rfl⟩
    rw [← hi] at ho hb
    have h := infR_T ho
    rw [hb] at h
    rw [h]; exact ⟨rfl, ⟨rfl, rfl⟩, ho⟩
  · rintro ⟨hc, ⟨hr, he⟩, ho⟩
    refine ⟨ho, ?_⟩
    have h : infR b = ((infR b).1, 0, [], 0) := Prod.ext rfl (Prod.ext hc (Prod.ext hr he))
    have := infR_inv h
    rw [List.append_nil] at this
    exact this.symm
end Go.Byt
namespace Go.Proofs.Ytimeclfplaonkaa.W
open Go Go.Eng Go.Byt
set_option linter.unusedVariables false
set_option linter.unusedSimpArgs false
def long (ls : List (List UInt8)) : Bool := ls.any fun x => decide (255 < (x.length : Int))
set_option maxRecDepth 100000 in
set_option maxHeartbeats 1000000 in
theorem short1_any (v : Value) (xs : List UInt8) (w : World) (hv : RdB w v xs) : Rets Try.prog 134 [v] w (fun r w' => r = .bool (decide (255 < (xs.length : Int))) ∧ w = w') := by
 refine rets_of_tw Try.func134 rfl (by decide) Try.ntmps134 rfl (fun fin _ hfin => ?_)
 refine tw_seq (tw_region (ow_g (g_as rfl) rfl (ow_nil (tw_seq (tw_region (ow_g (g_mv rfl) rfl ?_))))))
 refine ow_g (g_len Try.underlying23 rfl (by first | assumption | exact Own.rd ‹_› | exact Rd.keep0 ‹_› hB | exact Own.rd (Own.keep0 ‹_› hB))) rfl ?_
 refine ow_g (g_gt rfl rfl) rfl ?_
 refine ow_g (g_as rfl) rfl (ow_nil (tw_ret1 hfin Try.results134 rfl ?_))
 exact ⟨rfl, rfl⟩
set_option maxRecDepth 100000 in
set_option maxHeartbeats 1000000 in
theorem idx_any (v : Value) (ls : List (List UInt8)) (lo : Nat) (w : World) (h : SlB w lo v ls) : Rets Try.prog 135 [v, .func (.func 134) #[] #[]] w (fun r w' => ∃ n, r = .int .i64 n ∧ decide (0 ≤ n) = long ls ∧ w = w') := by
 obtain ⟨us, h1, h2, h3⟩ := h
 replace h3 := h3.rd
 have hle := h3.le
 refine rets_of_tw Try.func135 rfl (by decide) Try.ntmps135 rfl (fun fin _ hfin => ?_)
 refine tw_seq (tw_region (ow_g (g_as rfl) rfl (ow_nil (tw_seq (tw_seq (tw_region ?_))))))
 refine ow_g (g_mv rfl) rfl (ow_g (g_len Try.underlying102 rfl (by first | assumption | exact Own.rd ‹_› | exact Rd.keep0 ‹_› hB | exact Own.rd (Own.keep0 ‹_› hB))) rfl ?_)
 refine ow_g (g_mv rfl) rfl (ow_nil (tw_block (tw_loop (Γ := Nat) (fun i => [(0, v), (1, .func (.func 134) #[] #[]), (7, .int .i64 (ls.length : Int)), (8, .int .i64 (i : Int))]) (fun i W => i ≤ ls.length ∧ long (ls.take i) = false ∧ w = W) (fun i => ls.length - i) 0 ⟨rfl, rfl, rfl, rfl, trivial⟩ (⟨by omega, rfl, rfl⟩) ?_)))
 rintro i w1 ⟨hi0, hlo, rfl⟩
 refine tw_keep [(0, v), (1, .func (.func 134) #[] #[]), (7, .int .i64 (ls.length : Int)), (8, .int .i64 (i : Int))] ⟨rfl, rfl, rfl, rfl, trivial⟩ ?_
 refine tw_seq (tw_region (ow_g (g_lt rfl rfl) rfl ?_))
 refine ow_nil (tw_seq (tw_if rfl (fun hc1 => ?_) (fun hc1 => ?_)))
 ·
  refine tw_skip (tw_seq (tw_block (tw_seq (tw_region (ow_g (g_mv rfl) rfl (ow_g (g_as rfl) rfl ?_))))))
  refine ow_nil (tw_seq (tw_region (ow_g (g_mv rfl) rfl (ow_g (g_mv rfl) rfl (ow_g (g_mv rfl) rfl (ow_g (g_ix Try.underlying102 ty23 rfl (by first | assumption | exact Own.rd ‹_› | exact Rd.keep0 ‹_› hB | exact Own.rd (Own.keep0 ‹_› hB)) rfl (by omega)) rfl ?_))))))
  obtain ⟨u, x, hx, hu, ru⟩ := h2.get (i := i) (by omega)
  refine ow_g (g_lde sc23 rfl h3 (by rw [Nat.mul_one]; exact hu)) rfl ?_
  refine ow_d (d_callv rfl rfl (short1_any u x w ru)) rfl ?_
  rintro _ _ ⟨rfl, rfl⟩
  refine ow_nil (tw_if rfl (fun hc2 => ?_) (fun hc2 => ?_))
  ·
   refine tw_seq (tw_region (ow_g (g_mv rfl) rfl (ow_g (g_as rfl) rfl (ow_nil (tw_ret1 hfin Try.results135 rfl ?_)))))
   have hl : long ls = true := by
    unfold long; rw [List.any_eq_true]; exact ⟨x, List.mem_of_getElem? hx, by simpa using hc2⟩
   exact ⟨_, rfl, by rw [hl, decide_eq_true (by omega)], rfl⟩
  ·
   refine tw_skip (tw_b (tw_region (ow_g (g_add rfl rfl (by omega)) rfl ?_)))
   refine ow_g (g_mv rfl) rfl (ow_nil (tw_inv (Γ := Nat) (i + 1) ⟨rfl, rfl, rfl, rfl, trivial⟩ (by (try dsimp only); omega) (⟨by omega, by unfold long at *; rw [take_get hx, List.any_append, hlo]; simp; omega, rfl⟩)))
 ·
  refine tw_exit rfl ?_
  refine tw_seq (tw_region (ow_g (g_as rfl) rfl (ow_nil (tw_ret1 hfin Try.results135 rfl ?_))))
  have e : ls.take i = ls := List.take_of_length_le (by omega)
  rw [e] at hlo
  exact ⟨_, rfl, by rw [hlo]; rfl, rfl⟩
set_option maxRecDepth 100000 in
set_option maxHeartbeats 1000000 in
theorem cont_any (v : Value) (ls : List (List UInt8)) (lo : Nat) (w : World) (h : SlB w lo v ls) : Rets Try.prog 133 [v, .func (.func 134) #[] #[]] w (fun r w' => r = .bool (long ls) ∧ w = w') := by
 refine rets_of_tw Try.func133 rfl (by decide) Try.ntmps133 rfl (fun fin _ hfin => ?_)
 refine tw_seq (tw_region (ow_g (g_as rfl) rfl (ow_nil (tw_seq (tw_region (ow_g (g_mv rfl) rfl ?_))))))
 refine ow_g (g_mv rfl) rfl (ow_d (d_call (vs := [_, _]) rfl (idx_any v ls lo w h)) rfl ?_)
 rintro _ _ ⟨n, rfl, hn, rfl⟩
 refine ow_g (g_ge rfl rfl) rfl ?_
 refine ow_g (g_as rfl) rfl (ow_nil (tw_ret1 hfin Try.results133 rfl ?_))
 exact ⟨by rw [hn], rfl⟩
set_option maxRecDepth 100000 in
set_option maxHeartbeats 1000000 in
theorem short_any (v : Value) (ls : List (List UInt8)) (lo : Nat) (w : World) (h : SlB w lo v ls) : Rets Try.prog 130 [v] w (fun r w' => r = .bool (!long ls) ∧ w = w') := by
 refine rets_of_tw Try.func130 rfl (by decide) Try.ntmps130 rfl (fun fin _ hfin => ?_)
 refine tw_seq (tw_region (ow_g (g_as rfl) rfl (ow_nil (tw_seq (tw_region (ow_g (g_mv rfl) rfl ?_))))))
 refine ow_d (d_call (vs := [_, _]) rfl (cont_any v ls lo w h)) rfl ?_
 rintro _ _ ⟨rfl, rfl⟩
 refine ow_g (g_not rfl) rfl ?_
 refine ow_g (g_as rfl) rfl (ow_nil (tw_ret1 hfin Try.results130 rfl ?_))
 exact ⟨rfl, rfl⟩
set_option maxRecDepth 100000 in
set_option maxHeartbeats 1000000 in
theorem sjoin_any (v : Value) (ls : List (List UInt8)) (lo : Nat) (w : World) (h : SlB w lo v ls) (hsum : (vecs ls).length ≤ 140737488355328) : Rets Try.prog 131 [v] w (fun u w' => OwnB w' w.heap.size u (vecsB ls) ∧ Keep [] w w') := by
 have hB : Keep [] w w := Keep.refl _ _
 obtain ⟨us, h1, h2, h3⟩ := h
 replace h3 := h3.rd
 rw [← h1] at h3
 refine rets_of_tw Try.func131 rfl (by decide) Try.ntmps131 rfl (fun fin _ hfin => ?_)
 refine tw_seq (tw_region (ow_g (g_as rfl) rfl (ow_nil (tw_seq (tw_region (ow_g (g_mv rfl) rfl ?_))))))
 refine ow_d (d_call (vs := [_]) rfl (vectors_any _ us ls _ (Rd.keep0 h3 hB) (RdL.keep0 h2 hB) hsum)) rfl ?_
 rintro _ w1 ⟨v1, rfl, o1, k1⟩
 have gl_o1 := hB.size
 replace hB := hB.trans k1
 have u_o1 := o1.blk
 refine ow_g (g_mv rfl) rfl (ow_g (g_ext (vs := [_, _]) rfl rfl) rfl ?_)
 refine ow_g (g_ext (vs := [_, _]) rfl rfl) rfl ?_
 refine ow_g (g_as rfl) rfl (ow_g (g_as rfl) rfl (ow_nil (tw_seq (tw_region (ow_g (g_mv rfl) rfl (ow_g (g_as rfl) rfl ?_))))))
 refine ow_nil (tw_ret1 hfin Try.results131 rfl ?_)
 exact ⟨‹OwnB _ _ _ _›.lo (Nat.le_refl _), hB⟩
set_option maxRecDepth 100000 in
set_option maxHeartbeats 1000000 in
theorem ctxright_any (g t x : Value) (ep : Int) (c : Ctx) (w : World) (hg : RdB w g c.g) (ht : RdB w t c.tr) (hx : RdB w x c.tx) (hep : ep = c.ep) : Rets Try.prog 121 [.agg [g, .int .i64 ep, t, x].toArray] w (fun r w' => r = .bool (ctxOk c) ∧ Keep [] w w') := by
 have hB : Keep [] w w := Keep.refl _ _
 refine rets_of_tw Try.func121 rfl (by decide) Try.ntmps121 rfl (fun fin _ hfin => ?_)
 refine tw_seq (tw_region (ow_d (d_box (cs := [g, .int .i64 ep, t, x]) rfl rfl) rfl ?_))
 rintro _ w1 ⟨b1, rfl, eb1, hb1, k1, z1⟩
 have ge_b1 : w.heap.size ≤ b1 := by have := hB.size; omega
 replace hB := hB.trans k1
 clear eb1 z1
 refine ow_g (g_as rfl) rfl (ow_nil (tw_seq (tw_region (ow_g (g_faE 0 Try.underlying81 rfl ty23 (by decide) rfl rfl) rfl ?_))))
 refine ow_g (g_ldb sc23 rfl hb1 rfl) rfl ?_
 refine ow_g (g_len Try.underlying23 rfl (by first | assumption | exact Own.rd ‹_› | exact Rd.keep0 ‹_› hB | exact Own.rd (Own.keep0 ‹_› hB))) rfl ?_
 refine ow_g (g_le rfl rfl) rfl ?_
 refine ow_g (g_mv rfl) rfl (ow_grp 7 true rfl (fun c1 hgc1 => ?_))
 refine ow_gg [(1, _)] (grd1 rfl rfl rfl hgc1) ⟨und0 rfl, trivial⟩ (fun hw1 => g_faE 1 Try.underlying81 rfl ty3 (by decide) rfl rfl) rfl ?_
 refine ow_gg [(8, _)] (grd1 rfl rfl rfl hgc1) ⟨und1 rfl, trivial⟩ (fun hw2 => g_ldb sc3 rfl hb1 rfl) rfl ?_
 refine ow_gg [(9, _)] (grd1 rfl rfl rfl hgc1) ⟨und1 rfl, trivial⟩ (fun hw3 => g_ge rfl rfl) rfl ?_
 refine ow_g (g_pand rfl rfl hgc1) rfl ?_
 refine ow_g (g_mv rfl) rfl (ow_grp 12 true rfl (fun c2 hgc2 => ?_))
 refine ow_gg [(1, _)] (grd1 rfl rfl rfl hgc2) ⟨und0 rfl, trivial⟩ (fun hw4 => g_faE 1 Try.underlying81 rfl ty3 (by decide) rfl rfl) rfl ?_
 refine ow_gg [(13, _)] (grd1 rfl rfl rfl hgc2) ⟨und1 rfl, trivial⟩ (fun hw5 => g_ldb sc3 rfl hb1 rfl) rfl ?_
 refine ow_gg [(14, _)] (grd1 rfl rfl rfl hgc2) ⟨und1 rfl, trivial⟩ (fun hw6 => g_lt rfl rfl) rfl ?_
 refine ow_g (g_pand rfl rfl hgc2) rfl ?_
 refine ow_g (g_mv rfl) rfl (ow_grp 17 true rfl (fun c3 hgc3 => ?_))
 refine ow_gg [(1, _)] (grd1 rfl rfl rfl hgc3) ⟨und0 rfl, trivial⟩ (fun hw7 => g_faE 2 Try.underlying81 rfl ty23 (by decide) rfl rfl) rfl ?_
 refine ow_gg [(18, _)] (grd1 rfl rfl rfl hgc3) ⟨und1 rfl, trivial⟩ (fun hw8 => g_ldb sc23 rfl hb1 rfl) rfl ?_
 refine ow_gg [(19, _)] (grd1 rfl rfl rfl hgc3) ⟨und1 rfl, trivial⟩ (fun hw9 => g_len Try.underlying23 rfl (by first | assumption | exact Own.rd ‹_› | exact Rd.keep0 ‹_› hB | exact Own.rd (Own.keep0 ‹_› hB))) rfl ?_
 refine ow_gg [(20, _)] (grd1 rfl rfl rfl hgc3) ⟨und1 rfl, trivial⟩ (fun hw10 => g_le rfl rfl) rfl ?_
 refine ow_g (g_pand rfl rfl hgc3) rfl ?_
 refine ow_g (g_mv rfl) rfl (ow_grp 23 true rfl (fun c4 hgc4 => ?_))
 refine ow_gg [(1, _)] (grd1 rfl rfl rfl hgc4) ⟨und0 rfl, trivial⟩ (fun hw11 => g_faE 3 Try.underlying81 rfl ty23 (by decide) rfl rfl) rfl ?_
 refine ow_gg [(24, _)] (grd1 rfl rfl rfl hgc4) ⟨und1 rfl, trivial⟩ (fun hw12 => g_ldb sc23 rfl hb1 rfl) rfl ?_
 refine ow_gg [(25, _)] (grd1 rfl rfl rfl hgc4) ⟨und1 rfl, trivial⟩ (fun hw13 => g_len Try.underlying23 rfl (by first | assumption | exact Own.rd ‹_› | exact Rd.keep0 ‹_› hB | exact Own.rd (Own.keep0 ‹_› hB))) rfl ?_
 refine ow_gg [(26, _)] (grd1 rfl rfl rfl hgc4) ⟨und1 rfl, trivial⟩ (fun hw14 => g_le rfl rfl) rfl ?_
 refine ow_g (g_pand rfl rfl hgc4) rfl ?_
 refine ow_g (g_as rfl) rfl (ow_nil (tw_keep [(2, _)] ⟨rfl, trivial⟩ ?_))
 refine tw_ret1 hfin Try.results121 rfl ?_
 refine ⟨congrArg Value.bool ?_, hB⟩
 subst hep
 have e : ∀ n : Nat, decide ((n : Int) ≤ 255) = decide (n ≤ 255) := fun n => by rw [decide_eq_decide]; omega
 unfold ctxOk
 rw [e, e, e]
end Go.Proofs.Ytimeclfplaonkaa.W
namespace Go.Proofs.Ytimeclfplaonkaa.W
open Go Go.Eng Go.Byt
set_option linter.unusedVariables false
set_option linter.unusedSimpArgs false
theorem cconcat_any (v : Value) (ls : List (List UInt8)) (lo : Nat) (w : World) (h : SlB w lo v ls) (hsum : ls.flatten.length ≤ 140737488355328) : Rets Try.prog 118 [v] w (fun u w' => OwnB w' w.heap.size u ls.flatten ∧ Keep [] w w') := by
  obtain ⟨us, h1, h2, h3⟩ := h
  replace h3 := h3.rd
  rw [← h1] at h3
  exact concat_any v us ls w h3 h2 hsum
theorem long3 {a b c : List UInt8} : long [a, b, c] = true ↔ 255 < a.length ∨ 255 < b.length ∨ 255 < c.length := by
  unfold long; simp only [List.any_cons, List.any_nil, Bool.or_false, Bool.or_eq_true, decide_eq_true_eq]; omega
theorem numB_8 {n : Int} (h0 : 0 ≤ n) (h1 : n < 4294967296) : numB (bitsOf 8) n 8 = be n 8 := by
  have hb : bitsOf 8 = 62 := by decide
  have e : numE 62 n = 0 := by
    unfold numE
    rw [if_neg (by decide), if_neg (by rw [show (2 : Int) ^ (62 : Int).toNat = 4611686018427387904 from rfl]; omega)]
  unfold numB; rw [hb, if_pos e]; rfl
theorem ctx_flat {c : Ctx} (h : ctxOk c = true) : [[0, 1, 0, 1], vecsB [c.g], numB (bitsOf 8) c.ep 8, vecsB [c.tr, c.tx, []]].flatten = ctxT c := by
  obtain ⟨h1, h2, h3, h4, h5⟩ := ctxOk_iff.1 h
  have v1 : vecsB [c.g] = vec c.g := by
    unfold vecsB; rw [if_pos (by intro y hy; simp only [List.mem_cons, List.not_mem_nil, or_false] at hy; subst hy; omega)]; simp [vecs]
  have v3 : vecsB [c.tr, c.tx, []] = vec c.tr ++ (vec c.tx ++ vec []) := by
    unfold vecsB; rw [if_pos (by intro y hy; simp only [List.mem_cons, List.not_mem_nil, or_false] at hy; rcases hy with rfl | rfl | rfl <;> first | omega | simp)]; simp [vecs]
  have e4 : be 65537 4 = [0, 1, 0, 1] := by decide
  rw [v1, v3, numB_8 h2 h3]
  unfold ctxT; rw [e4]; simp
theorem vecs_s1 {a : List UInt8} (h1 : a.length ≤ 255) : (vecs [a]).length ≤ 140737488355328 := by
  have e1 := vlen_length a.length
  simp only [vecs, vec, List.flatMap_cons, List.flatMap_nil, List.append_nil, List.length_append]; omega
set_option maxRecDepth 100000 in
set_option maxHeartbeats 1000000 in
theorem putc_any (g t x : Value) (ep : Int) (c : Ctx) (w : World) (hg : RdB w g c.g) (ht : RdB w t c.tr) (hx : RdB w x c.tx) (hep : ep = c.ep) : Rets Try.prog 117 [.agg [g, .int .i64 ep, t, x].toArray] w (fun v w' => ∃ u, v = .tuple #[u, .int .i64 (bif ctxOk c then 0 else 1)] ∧ OwnB w' w.heap.size u (bif ctxOk c then ctxT c else []) ∧ Keep [] w w') := by
  have hB : Keep [] w w := Keep.refl _ _
  subst hep
  refine rets_of_tw Try.func117 rfl (by decide) Try.ntmps117 rfl (fun fin _ hfin => ?_)
  refine tw_seq ?_
  refine tw_region ?_
  refine ow_d (d_box (cs := [g, .int .i64 c.ep, t, x]) rfl rfl) rfl ?_
  rintro _ w1 ⟨b1, rfl, eb1, hb1, k1, z1⟩
  have ge_b1 : w.heap.size ≤ b1 := by have := hB.size; omega
  replace hB := hB.trans k1
  clear eb1 z1
  refine ow_g (g_as rfl) rfl ?_
  refine ow_g (g_as rfl) rfl ?_
  refine ow_nil ?_
  refine tw_seq ?_
  refine tw_seq ?_
  refine tw_region ?_
  refine ow_g (g_faE 0 Try.underlying84 rfl ty23 (by decide) rfl rfl) rfl ?_
  refine ow_g (g_ldb sc23 rfl hb1 rfl) rfl ?_
  refine ow_g (g_faE 2 Try.underlying84 rfl ty23 (by decide) rfl rfl) rfl ?_
  refine ow_g (g_ldb sc23 rfl hb1 rfl) rfl ?_
  refine ow_g (g_faE 3 Try.underlying84 rfl ty23 (by decide) rfl rfl) rfl ?_
  refine ow_g (g_ldb sc23 rfl hb1 rfl) rfl ?_
  refine ow_d (d_bsL (m := 3) (ls := [c.g, c.tr, c.tx]) (xs := [.tmp 7, .tmp 9, .tmp 11]) (us := [_, _, _]) Try.underlying102 ty23 rfl rfl (rdL_cons (by first | exact Rd.nil _ _ | exact (by first | assumption | exact Own.rd (by assumption) | exact Rd.keep0 (by assumption) hB | exact Own.rd (Own.keep0 (by assumption) hB))) (rdL_cons (by first | exact Rd.nil _ _ | exact (by first | assumption | exact Own.rd (by assumption) | exact Rd.keep0 (by assumption) hB | exact Own.rd (Own.keep0 (by assumption) hB))) (rdL_cons (by first | exact Rd.nil _ _ | exact (by first | assumption | exact Own.rd (by assumption) | exact Rd.keep0 (by assumption) hB | exact Own.rd (Own.keep0 (by assumption) hB))) (rdL_nil _)))) rfl rfl) rfl ?_
  rintro v1 w2 ⟨sl1, k2⟩
  replace hb1 := hb1.keep0 k2
  replace hB := hB.trans k2
  refine ow_d (d_call (vs := [_]) rfl (short_any _ [c.g, c.tr, c.tx] _ _ (by assumption))) rfl ?_
  rintro _ _ ⟨rfl, rfl⟩
  refine ow_g (g_not rfl) rfl ?_
  refine ow_g (g_mv rfl) rfl ?_
  refine ow_grp 15 false rfl (fun c1 hgc1 => ?_)
  refine ow_gg [(1, _)] (grd1 rfl rfl rfl hgc1) ⟨und0 rfl, trivial⟩ (fun hw1 => g_faE 1 Try.underlying84 rfl ty3 (by decide) rfl rfl) rfl ?_
  refine ow_gg [(16, _)] (grd1 rfl rfl rfl hgc1) ⟨und1 rfl, trivial⟩ (fun hw2 => g_ldb sc3 rfl hb1 rfl) rfl ?_
  refine ow_gg [(17, _)] (grd1 rfl rfl rfl hgc1) ⟨und1 rfl, trivial⟩ (fun hw3 => g_lt rfl rfl) rfl ?_
  refine ow_g (g_por rfl rfl hgc1) rfl ?_
  refine ow_g (g_mv rfl) rfl ?_
  refine ow_grp 20 false rfl (fun c2 hgc2 => ?_)
  refine ow_gg [(1, _)] (grd1 rfl rfl rfl hgc2) ⟨und0 rfl, trivial⟩ (fun hw4 => g_faE 1 Try.underlying84 rfl ty3 (by decide) rfl rfl) rfl ?_
  refine ow_gg [(21, _)] (grd1 rfl rfl rfl hgc2) ⟨und1 rfl, trivial⟩ (fun hw5 => g_ldb sc3 rfl hb1 rfl) rfl ?_
  refine ow_gg [(22, _)] (grd1 rfl rfl rfl hgc2) ⟨und1 rfl, trivial⟩ (fun hw6 => g_ge rfl rfl) rfl ?_
  refine ow_g (g_por rfl rfl hgc2) rfl ?_
  refine ow_nil ?_
  refine tw_keep [(1, _), (24, _)] ⟨rfl, rfl, trivial⟩ ?_
  refine tw_cond rfl (fun hc1 => ?_) (fun hc1 => ?_)
  · -- yes
    have hd1 := hc1
    try (simp only [Bool.and_eq_true, Bool.or_eq_true, decide_eq_true_eq, Bool.and_eq_false_iff, Bool.or_eq_false_iff, decide_eq_false_iff_not, Bool.not_eq_true', Bool.not_eq_false', Bool.not_eq_true, Bool.not_eq_false, ne_eq, Decidable.not_not, decide_true, decide_false, Bool.true_and, Bool.false_and, Bool.or_false, Bool.false_or, not_true_eq_false, false_or, or_false, true_and, and_true, not_false_eq_true, reduceCtorEq] at hd1)
    refine tw_seq ?_
    refine tw_region ?_
    refine ow_g (g_as rfl) rfl ?_
    refine ow_g (g_as rfl) rfl ?_
    refine ow_nil ?_
    refine tw_ret2 hfin Try.results117 rfl rfl ?_
    have hok : ctxOk c = false := by
      rw [← Bool.not_eq_true]; intro h; obtain ⟨h1, h2, h3, h4, h5⟩ := ctxOk_iff.1 h
      have hl : long [c.g, c.tr, c.tx] = false := by rw [← Bool.not_eq_true, long3]; omega
      rw [hl] at hc1; simp at hc1; omega
    exact ⟨_, by rw [hok]; rfl, by rw [hok]; exact own_nil _ _ _ _, hB⟩
  · -- no
    have hd2 := hc1
    try (simp only [Bool.and_eq_true, Bool.or_eq_true, decide_eq_true_eq, Bool.and_eq_false_iff, Bool.or_eq_false_iff, decide_eq_false_iff_not, Bool.not_eq_true', Bool.not_eq_false', Bool.not_eq_true, Bool.not_eq_false, ne_eq, Decidable.not_not, decide_true, decide_false, Bool.true_and, Bool.false_and, Bool.or_false, Bool.false_or, not_true_eq_false, false_or, or_false, true_and, and_true, not_false_eq_true, reduceCtorEq] at hd2)
    refine tw_skip ?_
    refine tw_seq ?_
    refine tw_region ?_
    have hl3 : ¬ (255 < c.g.length ∨ 255 < c.tr.length ∨ 255 < c.tx.length) := fun h => by have := long3.2 h; simp_all
    have hok : ctxOk c = true := ctxOk_iff.2 ⟨by omega, by simp_all, by simp_all, by omega, by omega⟩
    have hok2 := ctxOk_iff.1 hok
    refine ow_g (g_faE 1 Try.underlying84 rfl ty3 (by decide) rfl rfl) rfl ?_
    refine ow_g (g_ldb sc3 rfl hb1 rfl) rfl ?_
    refine ow_d (d_call (vs := [_, _]) rfl (number_any c.ep 8 (by decide) _)) rfl ?_
    rintro _ w3 ⟨u1, rfl, o2, k3⟩
    have gl_o2 := hB.size
    have sb_b1_o2 := fun x hx => (show x ≠ b1 from by have h1 := (o2.blk x hx).1; have h2 := hb1.lt; omega)
    replace hb1 := hb1.keep0 k3
    replace sl1 := sl1.keep0 k3
    replace hB := hB.trans k3
    have u_o2 := o2.blk
    refine ow_g (g_mv rfl) rfl ?_
    refine ow_g (g_ext (vs := [_, _]) rfl rfl) rfl ?_
    refine ow_g (g_ext (vs := [_, _]) rfl rfl) rfl ?_
    refine ow_g (g_as rfl) rfl ?_
    have gl_w := hB.size
    refine ow_g (g_as rfl) rfl ?_
    refine ow_nil ?_
    refine tw_seq ?_
    refine tw_drawnT 14 mixed [(1, _), (4, _), (24, _), (26, _), (27, _), (28, _), (25, _), (29, _), (30, _), (5, _)] (fun jj v W => match jj with | 0 => OwnB W w3.heap.size v ([0, 1, 0, 1]) | 1 => v = .pointer (some ⟨b1, 0, none⟩) | 2 => v = g | 3 => SlL W w3.heap.size 23 v [c.g] | 4 => OwnB W w3.heap.size v (vecsB [c.g]) | 5 => v = u1 | 6 => v = .pointer (some ⟨b1, 2, none⟩) | 7 => v = t | 8 => v = .pointer (some ⟨b1, 3, none⟩) | 9 => v = x | 10 => SlL W w3.heap.size 23 v [c.tr, c.tx, []] | 11 => OwnB W w3.heap.size v (vecsB [c.tr, c.tx, []]) | 12 => SlL W w3.heap.size 23 v [[0, 1, 0, 1], vecsB [c.g], numB (bitsOf 8) c.ep 8, vecsB [c.tr, c.tx, []]] | 13 => OwnB W w3.heap.size v ([[0, 1, 0, 1], vecsB [c.g], numB (bitsOf 8) c.ep 8, vecsB [c.tr, c.tx, []]].flatten) | _ => True) ⟨rfl, rfl, rfl, rfl, rfl, rfl, rfl, rfl, rfl, rfl, trivial⟩ (by decide) (by decide) rfl ?_ ?_ ?_
    · intro jj v W W' h k
      match jj, h with
      | 0, h => exact h.keep0 k
      | 1, h => exact h
      | 2, h => exact h
      | 3, h => exact h.keep0 k
      | 4, h => exact h.keep0 k
      | 5, h => exact h
      | 6, h => exact h
      | 7, h => exact h
      | 8, h => exact h
      | 9, h => exact h
      | 10, h => exact h.keep0 k
      | 11, h => exact h.keep0 k
      | 12, h => exact h.keep0 k
      | 13, h => exact h.keep0 k
      | _ + 14, _ => trivial
    · refine ⟨?_, ?_, ?_, ?_, ?_, ?_, ?_, ?_, ?_, ?_, ?_, ?_, ?_, ?_, trivial⟩
      · refine ⟨[], rfl, ?_⟩; rintro W1 hk vs hd
        replace hb1 := hb1.keep0 hk
        replace sl1 := sl1.keep0 hk
        replace o2 := o2.keep0 hk
        replace hB := hB.trans hk
        refine ⟨true, fun a _ => rfl, fun _ => ?_, fun h => by cases h⟩
        refine does_sub [] trivial ?_
        refine (d_bs (m := 4) (xs := [.const (.int .u8 0), .const (.int .u8 1), .const (.int .u8 0), .const (.int .u8 1)]) (vs := [_, _, _, _]) Try.underlying23 ty5 (by decide) rfl rfl rfl (by simp only [List.forall_mem_cons]; exact ⟨rfl, rfl, rfl, rfl, fun v hv => by cases hv⟩) (by decide)).mono ?_
        rintro v W2 ⟨o1, _, _, k1, _⟩; exact ⟨k1, o1.lo hk.size⟩
      · refine ⟨[], rfl, ?_⟩; rintro W1 hk vs hd
        replace hb1 := hb1.keep0 hk
        replace sl1 := sl1.keep0 hk
        replace o2 := o2.keep0 hk
        replace hB := hB.trans hk
        refine ⟨true, fun a _ => rfl, fun _ => ?_, fun h => by cases h⟩
        refine does_sub [(1, _)] ⟨rfl, trivial⟩ ?_
        refine (Gives.does (g_faE 0 Try.underlying84 rfl ty23 (by decide) rfl rfl)).mono ?_
        rintro v W2 ⟨rfl, rfl⟩
        exact ⟨Keep.refl _ _, rfl⟩
      · refine ⟨[1], rfl, ?_⟩; rintro W1 hk vs hd
        have d1 : (vs 1) = .pointer (some ⟨b1, 0, none⟩) := hd 1 (by decide)
        replace hb1 := hb1.keep0 hk
        replace sl1 := sl1.keep0 hk
        replace o2 := o2.keep0 hk
        replace hB := hB.trans hk
        refine ⟨true, fun a _ => rfl, fun _ => ?_, fun h => by cases h⟩
        refine does_sub [(32, .pointer (some ⟨b1, 0, none⟩))] ⟨congrArg some d1, trivial⟩ ?_
        refine (Gives.does (g_ldb sc23 rfl hb1 rfl)).mono ?_
        rintro v W2 ⟨rfl, rfl⟩
        exact ⟨Keep.refl _ _, rfl⟩
      · refine ⟨[2], rfl, ?_⟩; rintro W1 hk vs hd
        have d2 : (vs 2) = g := hd 2 (by decide)
        replace hb1 := hb1.keep0 hk
        replace sl1 := sl1.keep0 hk
        replace o2 := o2.keep0 hk
        replace hB := hB.trans hk
        refine ⟨true, fun a _ => rfl, fun _ => ?_, fun h => by cases h⟩
        refine does_sub [(33, g)] ⟨congrArg some d2, trivial⟩ ?_
        refine (d_bsL (m := 1) (ls := [c.g]) (xs := [.tmp 33]) (us := [_]) Try.underlying102 ty23 rfl rfl (rdL_cons (by first | exact Rd.nil _ _ | exact (by first | assumption | exact Own.rd (by assumption) | exact Rd.keep0 (by assumption) hB | exact Own.rd (Own.keep0 (by assumption) hB))) (rdL_nil _)) rfl rfl).mono ?_
        rintro v W2 ⟨o1, k1⟩; exact ⟨k1, o1.lo hk.size⟩
      · refine ⟨[3], rfl, ?_⟩; rintro W1 hk vs hd
        have d3 : SlL W1 w3.heap.size 23 (vs 3) [c.g] := hd 3 (by decide)
        replace hb1 := hb1.keep0 hk
        replace sl1 := sl1.keep0 hk
        replace o2 := o2.keep0 hk
        replace hB := hB.trans hk
        refine ⟨true, fun a _ => rfl, fun _ => ?_, fun h => by cases h⟩
        refine does_sub [(34, vs 3)] ⟨rfl, trivial⟩ ?_
        refine (d_call (vs := [_]) rfl (sjoin_any _ _ _ _ (by assumption) (vecs_s1 (by omega)))).mono ?_
        rintro v W2 ⟨o1, k1⟩; exact ⟨k1, o1.lo hk.size⟩
      · refine ⟨[], rfl, ?_⟩; rintro W1 hk vs hd
        replace hb1 := hb1.keep0 hk
        replace sl1 := sl1.keep0 hk
        replace o2 := o2.keep0 hk
        replace hB := hB.trans hk
        refine ⟨true, fun a _ => rfl, fun _ => ?_, fun h => by cases h⟩
        refine does_sub [(4, _)] ⟨rfl, trivial⟩ ?_
        refine (Gives.does (g_mv rfl)).mono ?_
        rintro v W2 ⟨rfl, rfl⟩
        exact ⟨Keep.refl _ _, rfl⟩
      · refine ⟨[], rfl, ?_⟩; rintro W1 hk vs hd
        replace hb1 := hb1.keep0 hk
        replace sl1 := sl1.keep0 hk
        replace o2 := o2.keep0 hk
        replace hB := hB.trans hk
        refine ⟨true, fun a _ => rfl, fun _ => ?_, fun h => by cases h⟩
        refine does_sub [(1, _)] ⟨rfl, trivial⟩ ?_
        refine (Gives.does (g_faE 2 Try.underlying84 rfl ty23 (by decide) rfl rfl)).mono ?_
        rintro v W2 ⟨rfl, rfl⟩
        exact ⟨Keep.refl _ _, rfl⟩
      · refine ⟨[6], rfl, ?_⟩; rintro W1 hk vs hd
        have d6 : (vs 6) = .pointer (some ⟨b1, 2, none⟩) := hd 6 (by decide)
        replace hb1 := hb1.keep0 hk
        replace sl1 := sl1.keep0 hk
        replace o2 := o2.keep0 hk
        replace hB := hB.trans hk
        refine ⟨true, fun a _ => rfl, fun _ => ?_, fun h => by cases h⟩
        refine does_sub [(37, .pointer (some ⟨b1, 2, none⟩))] ⟨congrArg some d6, trivial⟩ ?_
        refine (Gives.does (g_ldb sc23 rfl hb1 rfl)).mono ?_
        rintro v W2 ⟨rfl, rfl⟩
        exact ⟨Keep.refl _ _, rfl⟩
      · refine ⟨[], rfl, ?_⟩; rintro W1 hk vs hd
        replace hb1 := hb1.keep0 hk
        replace sl1 := sl1.keep0 hk
        replace o2 := o2.keep0 hk
        replace hB := hB.trans hk
        refine ⟨true, fun a _ => rfl, fun _ => ?_, fun h => by cases h⟩
        refine does_sub [(1, _)] ⟨rfl, trivial⟩ ?_
        refine (Gives.does (g_faE 3 Try.underlying84 rfl ty23 (by decide) rfl rfl)).mono ?_
        rintro v W2 ⟨rfl, rfl⟩
        exact ⟨Keep.refl _ _, rfl⟩
      · refine ⟨[8], rfl, ?_⟩; rintro W1 hk vs hd
        have d8 : (vs 8) = .pointer (some ⟨b1, 3, none⟩) := hd 8 (by decide)
        replace hb1 := hb1.keep0 hk
        replace sl1 := sl1.keep0 hk
        replace o2 := o2.keep0 hk
        replace hB := hB.trans hk
        refine ⟨true, fun a _ => rfl, fun _ => ?_, fun h => by cases h⟩
        refine does_sub [(39, .pointer (some ⟨b1, 3, none⟩))] ⟨congrArg some d8, trivial⟩ ?_
        refine (Gives.does (g_ldb sc23 rfl hb1 rfl)).mono ?_
        rintro v W2 ⟨rfl, rfl⟩
        exact ⟨Keep.refl _ _, rfl⟩
      · refine ⟨[7, 9], rfl, ?_⟩; rintro W1 hk vs hd
        have d7 : (vs 7) = t := hd 7 (by decide)
        have d9 : (vs 9) = x := hd 9 (by decide)
        replace hb1 := hb1.keep0 hk
        replace sl1 := sl1.keep0 hk
        replace o2 := o2.keep0 hk
        replace hB := hB.trans hk
        refine ⟨true, fun a _ => rfl, fun _ => ?_, fun h => by cases h⟩
        refine does_sub [(38, t), (40, x)] ⟨congrArg some d7, congrArg some d9, trivial⟩ ?_
        refine (d_bsL (m := 3) (ls := [c.tr, c.tx, []]) (xs := [.tmp 38, .tmp 40, .const (.slice none 0 0)]) (us := [_, _, _]) Try.underlying102 ty23 rfl rfl (rdL_cons (by first | exact Rd.nil _ _ | exact (by first | assumption | exact Own.rd (by assumption) | exact Rd.keep0 (by assumption) hB | exact Own.rd (Own.keep0 (by assumption) hB))) (rdL_cons (by first | exact Rd.nil _ _ | exact (by first | assumption | exact Own.rd (by assumption) | exact Rd.keep0 (by assumption) hB | exact Own.rd (Own.keep0 (by assumption) hB))) (rdL_cons (by first | exact Rd.nil _ _ | exact (by first | assumption | exact Own.rd (by assumption) | exact Rd.keep0 (by assumption) hB | exact Own.rd (Own.keep0 (by assumption) hB))) (rdL_nil _)))) rfl rfl).mono ?_
        rintro v W2 ⟨o1, k1⟩; exact ⟨k1, o1.lo hk.size⟩
      · refine ⟨[10], rfl, ?_⟩; rintro W1 hk vs hd
        have d10 : SlL W1 w3.heap.size 23 (vs 10) [c.tr, c.tx, []] := hd 10 (by decide)
        replace hb1 := hb1.keep0 hk
        replace sl1 := sl1.keep0 hk
        replace o2 := o2.keep0 hk
        replace hB := hB.trans hk
        refine ⟨true, fun a _ => rfl, fun _ => ?_, fun h => by cases h⟩
        refine does_sub [(41, vs 10)] ⟨rfl, trivial⟩ ?_
        refine (d_call (vs := [_]) rfl (sjoin_any _ _ _ _ (by assumption) (vecs_len3 (by omega) (by omega) (by decide)))).mono ?_
        rintro v W2 ⟨o1, k1⟩; exact ⟨k1, o1.lo hk.size⟩
      · refine ⟨[0, 4, 5, 11], rfl, ?_⟩; rintro W1 hk vs hd
        have d0 : OwnB W1 w3.heap.size (vs 0) ([0, 1, 0, 1]) := hd 0 (by decide)
        have d4 : OwnB W1 w3.heap.size (vs 4) (vecsB [c.g]) := hd 4 (by decide)
        have d5 : (vs 5) = u1 := hd 5 (by decide)
        have d11 : OwnB W1 w3.heap.size (vs 11) (vecsB [c.tr, c.tx, []]) := hd 11 (by decide)
        replace hb1 := hb1.keep0 hk
        replace sl1 := sl1.keep0 hk
        replace o2 := o2.keep0 hk
        replace hB := hB.trans hk
        refine ⟨true, fun a _ => rfl, fun _ => ?_, fun h => by cases h⟩
        refine does_sub [(31, vs 0), (35, vs 4), (36, u1), (42, vs 11)] ⟨rfl, rfl, congrArg some d5, rfl, trivial⟩ ?_
        refine (d_bsL (m := 4) (ls := [[0, 1, 0, 1], vecsB [c.g], numB (bitsOf 8) c.ep 8, vecsB [c.tr, c.tx, []]]) (xs := [.tmp 31, .tmp 35, .tmp 36, .tmp 42]) (us := [_, _, _, _]) Try.underlying102 ty23 rfl rfl (rdL_cons (by first | exact Rd.nil _ _ | exact (by first | assumption | exact Own.rd (by assumption) | exact Rd.keep0 (by assumption) hB | exact Own.rd (Own.keep0 (by assumption) hB))) (rdL_cons (by first | exact Rd.nil _ _ | exact (by first | assumption | exact Own.rd (by assumption) | exact Rd.keep0 (by assumption) hB | exact Own.rd (Own.keep0 (by assumption) hB))) (rdL_cons (by first | exact Rd.nil _ _ | exact (by first | assumption | exact Own.rd (by assumption) | exact Rd.keep0 (by assumption) hB | exact Own.rd (Own.keep0 (by assumption) hB))) (rdL_cons (by first | exact Rd.nil _ _ | exact (by first | assumption | exact Own.rd (by assumption) | exact Rd.keep0 (by assumption) hB | exact Own.rd (Own.keep0 (by assumption) hB))) (rdL_nil _))))) rfl rfl).mono ?_
        rintro v W2 ⟨o1, k1⟩; exact ⟨k1, o1.lo hk.size⟩
      · refine ⟨[12], rfl, ?_⟩; rintro W1 hk vs hd
        have d12 : SlL W1 w3.heap.size 23 (vs 12) [[0, 1, 0, 1], vecsB [c.g], numB (bitsOf 8) c.ep 8, vecsB [c.tr, c.tx, []]] := hd 12 (by decide)
        replace hb1 := hb1.keep0 hk
        replace sl1 := sl1.keep0 hk
        replace o2 := o2.keep0 hk
        replace hB := hB.trans hk
        refine ⟨true, fun a _ => rfl, fun _ => ?_, fun h => by cases h⟩
        refine does_sub [(43, vs 12)] ⟨rfl, trivial⟩ ?_
        refine (d_call (vs := [_]) rfl (cconcat_any _ _ _ _ (by assumption) (by rw [ctx_flat hok]; have := ctxT_len hok; omega))).mono ?_
        rintro v W2 ⟨o1, k1⟩; exact ⟨k1, o1.lo hk.size⟩
    rintro w4 k4 vs hv
    replace hb1 := hb1.keep0 k4
    replace sl1 := sl1.keep0 k4
    replace o2 := o2.keep0 k4
    replace hB := hB.trans k4
    have e44 : OwnB w4 w3.heap.size (vs 13) ([[0, 1, 0, 1], vecsB [c.g], numB (bitsOf 8) c.ep 8, vecsB [c.tr, c.tx, []]].flatten) := hv 13 (by decide) rfl
    refine ow_keep [(44, vs 13), (1, _), (4, _), (24, _), (26, _), (27, _), (28, _), (25, _), (29, _), (30, _), (5, _)] ⟨rfl, rfl, rfl, rfl, rfl, rfl, rfl, rfl, rfl, rfl, rfl, trivial⟩ ?_
    have o3 := e44
    have u_o3 := o3.blk
    refine ow_g (g_as rfl) rfl ?_
    refine ow_g (g_as rfl) rfl ?_
    refine ow_nil ?_
    refine tw_keep [(2, _), (3, _)] ⟨rfl, rfl, trivial⟩ ?_
    refine tw_ret2 hfin Try.results117 rfl rfl ?_
    have hh := o3
    rw [ctx_flat hok] at hh
    exact ⟨_, by rw [hok]; rfl, by rw [hok]; exact hh.lo gl_w, hB⟩
end Go.Proofs.Ytimeclfplaonkaa.W
namespace Go.Proofs.Ytimeclfplaonkaa.W
open Go Go.Eng Go.Byt
set_option linter.unusedVariables false
set_option linter.unusedSimpArgs false
theorem joinB_1 {a : List UInt8} (h : a.length ≤ 65536) : joinB [a] = vec a := by
  unfold joinB vec1B
  simp only [List.flatMap_cons, List.flatMap_nil, List.append_nil]; rw [if_pos h]
theorem joinB_n {a b : List UInt8} (h1 : a.length ≤ 65536) (h2 : b.length ≤ 65536) : joinB [a, b, []] = vec a ++ (vec b ++ vec []) := by
  unfold joinB vec1B
  simp only [List.flatMap_cons, List.flatMap_nil, List.append_nil]; rw [if_pos h1, if_pos h2, if_pos (by simp)]
theorem ctx_app {c : Ctx} (h1 : joinB [c.g] = vec c.g) (h3 : joinB [c.tr, c.tx, []] = vec c.tr ++ (vec c.tx ++ vec [])) : (([0, 1, 0, 1] ++ joinB [c.g]) ++ be c.ep (8 : Int).toNat) ++ joinB [c.tr, c.tx, []] = ctxT c := by
  have e4 : be 65537 4 = [0, 1, 0, 1] := by decide
  rw [h1, h3]; unfold ctxT; rw [e4, show (8 : Int).toNat = 8 from rfl]; simp
set_option maxRecDepth 100000 in
set_option maxHeartbeats 1000000 in
theorem rctxb_any (g t x : Value) (c : Ctx) (w : World) (hg : RdB w g c.g) (ht : RdB w t c.tr) (hx : RdB w x c.tx) (hok : ctxOk c = true) : Rets Try.prog 78 [.agg [g, .int .i64 c.ep, t, x].toArray] w (fun u w' => OwnB w' w.heap.size u (ctxT c) ∧ Keep [] w w') := by
 have hB : Keep [] w w := Keep.refl _ _
 obtain ⟨q1, q2, q3, q4, q5⟩ := ctxOk_iff.1 hok
 have hj1 := joinB_1 (a := c.g) (by omega)
 have hj3 := joinB_n (a := c.tr) (b := c.tx) (by omega) (by omega)
 have hl1 := vec_le c.g
 have hl2 := vec_le c.tr
 have hl3 := vec_le c.tx
 have hl4 := vec_le []
 have hq1 : (joinB [c.g]).length ≤ 300 := by rw [hj1]; omega
 have hq3 : (joinB [c.tr, c.tx, []]).length ≤ 600 := by rw [hj3, List.length_append, List.length_append]; simp only [List.length_nil] at hl4; omega
 have hq2 : (be c.ep (8 : Int).toNat).length = 8 := be_length _ _
 refine rets_of_tw Try.func78 rfl (by decide) Try.ntmps78 rfl (fun fin _ hfin => ?_)
 refine tw_seq (tw_region (ow_d (d_box (cs := [g, .int .i64 c.ep, t, x]) rfl rfl) rfl ?_))
 rintro _ w1 ⟨b1, rfl, eb1, hb1, k1, z1⟩
 have ge_b1 : w.heap.size ≤ b1 := by have := hB.size; omega
 replace hB := hB.trans k1
 clear eb1 z1
 refine ow_g (g_as rfl) rfl (ow_nil (tw_seq (tw_region ?_)))
 have ltb1 := hb1.lt
 refine ow_d (d_bs (m := 4) (xs := [.const (.int .u8 (0)), .const (.int .u8 (1)), .const (.int .u8 (0)), .const (.int .u8 (1))]) (vs := [_, _, _, _]) Try.underlying23 ty5 (by decide) rfl rfl rfl (by simp only [List.forall_mem_cons]; exact ⟨rfl, rfl, rfl, rfl, fun v hv => by cases hv⟩) (by decide)) rfl ?_
 rintro v1 w2 ⟨o1, nn1, lb1, k2, z2⟩
 have gl_o1 := hB.size
 have sb_b1_o1 := fun x hx => (show x ≠ b1 from by have h1 := (o1.blk x hx).1; have h2 := hb1.lt; omega)
 replace hb1 := hb1.keep0 k2
 replace hB := hB.trans k2
 have u_o1 := o1.blk
 replace o1 : Own w2 _ _ 1 v1 4 (bv [0, 1, 0, 1]) := o1
 replace o1 := o1.lo ltb1
 refine ow_g (g_faE 0 Try.underlying81 rfl ty23 (by decide) rfl rfl) rfl ?_
 refine ow_g (g_ldb sc23 rfl hb1 rfl) rfl ?_
 refine ow_d (d_bsL (m := 1) (ls := [c.g]) (xs := [.tmp 6]) (us := [_]) Try.underlying102 ty23 rfl rfl (rdL_cons (by first | exact Rd.nil _ _ | exact (by first | assumption | exact Own.rd ‹_› | exact Rd.keep0 ‹_› hB | exact Own.rd (Own.keep0 ‹_› hB))) (rdL_nil _)) rfl rfl) rfl ?_
 rintro v2 w3 ⟨sl1, k3⟩
 replace hb1 := hb1.keep0 k3
 replace o1 := o1.keep0 k3
 replace hB := hB.trans k3
 refine ow_d (d_call (vs := [_]) rfl (rjoin_any _ _ _ _ ‹_› (by omega))) rfl ?_
 rintro v3 w4 ⟨o3, k4⟩
 have gl_o3 := hB.size
 have sb_b1_o3 := fun x hx => (show x ≠ b1 from by have h1 := (o3.blk x hx).1; have h2 := hb1.lt; omega)
 replace hb1 := hb1.keep0 k4
 replace o1 := o1.keep0 k4
 replace sl1 := sl1.keep0 k4
 replace hB := hB.trans k4
 have u_o3 := o3.blk
 have lt_o4 := hb1.lt
 refine ow_d (d_appB Try.underlying23 ty5 rfl o1 rfl (show RdB _ _ _ from o3.rd) (by first | omega | (simp only [List.length_append] at *; omega)) (by omega)) rfl ?_
 rintro v4 w5 ⟨o4, k5, lb2, _⟩
 replace hB := hB.new k5 (fun x hx => .inl (Nat.le_trans ge_b1 (Nat.le_of_lt (o1.blk x hx).1)))
 replace hb1 := hb1.keep k5 (fun hm => absurd (o1.blk _ hm).1 (Nat.lt_irrefl _))
 refine ow_g (g_as rfl) rfl (ow_nil (tw_seq (tw_region (ow_g (g_mv rfl) rfl (ow_g (g_faE 1 Try.underlying81 rfl ty3 (by decide) rfl rfl) rfl ?_)))))
 refine ow_g (g_ldb sc3 rfl hb1 rfl) rfl ?_
 refine ow_d (d_call (vs := [_, _]) rfl (rbytes_any c.ep 8 (by decide) _)) rfl ?_
 rintro v5 w6 ⟨o5, k6⟩
 have gl_o5 := hB.size
 have sb_b1_o5 := fun x hx => (show x ≠ b1 from by have h1 := (o5.blk x hx).1; have h2 := hb1.lt; omega)
 replace hb1 := hb1.keep0 k6
 replace o4 := o4.keep0 k6
 replace hB := hB.trans k6
 have u_o5 := o5.blk
 have lt_o6 := hb1.lt
 refine ow_d (d_appB Try.underlying23 ty5 rfl o4 rfl (show RdB _ _ _ from o5.rd) (by first | omega | (simp only [List.length_append] at *; omega)) (by omega)) rfl ?_
 rintro v6 w7 ⟨o6, k7, lb3, _⟩
 replace hB := hB.new k7 (fun x hx => .inl (Nat.le_trans ge_b1 (Nat.le_of_lt (o4.blk x hx).1)))
 replace hb1 := hb1.keep k7 (fun hm => absurd (o4.blk _ hm).1 (Nat.lt_irrefl _))
 refine ow_g (g_as rfl) rfl (ow_nil (tw_keep [(1, _), (3, _)] ⟨rfl, rfl, trivial⟩ ?_))
 refine tw_seq (tw_region (ow_g (g_mv rfl) rfl (ow_g (g_faE 2 Try.underlying81 rfl ty23 (by decide) rfl rfl) rfl ?_)))
 refine ow_g (g_ldb sc23 rfl hb1 rfl) rfl ?_
 refine ow_g (g_faE 3 Try.underlying81 rfl ty23 (by decide) rfl rfl) rfl ?_
 refine ow_g (g_ldb sc23 rfl hb1 rfl) rfl ?_
 refine ow_d (d_bsL (m := 3) (ls := [c.tr, c.tx, []]) (xs := [.tmp 17, .tmp 19, .const (.slice none 0 0)]) (us := [_, _, _]) Try.underlying102 ty23 rfl rfl (rdL_cons (by first | exact Rd.nil _ _ | exact (by first | assumption | exact Own.rd ‹_› | exact Rd.keep0 ‹_› hB | exact Own.rd (Own.keep0 ‹_› hB))) (rdL_cons (by first | exact Rd.nil _ _ | exact (by first | assumption | exact Own.rd ‹_› | exact Rd.keep0 ‹_› hB | exact Own.rd (Own.keep0 ‹_› hB))) (rdL_cons (by first | exact Rd.nil _ _ | exact (by first | assumption | exact Own.rd ‹_› | exact Rd.keep0 ‹_› hB | exact Own.rd (Own.keep0 ‹_› hB))) (rdL_nil _)))) rfl rfl) rfl ?_
 rintro v7 w8 ⟨sl2, k8⟩
 replace hb1 := hb1.keep0 k8
 replace o6 := o6.keep0 k8
 replace hB := hB.trans k8
 refine ow_d (d_call (vs := [_]) rfl (rjoin_any _ _ _ _ ‹_› (by omega))) rfl ?_
 rintro v8 w9 ⟨o8, k9⟩
 have gl_o8 := hB.size
 have sb_b1_o8 := fun x hx => (show x ≠ b1 from by have h1 := (o8.blk x hx).1; have h2 := hb1.lt; omega)
 replace hb1 := hb1.keep0 k9
 replace o6 := o6.keep0 k9
 replace sl2 := sl2.keep0 k9
 replace hB := hB.trans k9
 have u_o8 := o8.blk
 have lt_o9 := hb1.lt
 refine ow_d (d_appB Try.underlying23 ty5 rfl o6 rfl (show RdB _ _ _ from o8.rd) (by first | omega | (simp only [List.length_append] at *; omega)) (by omega)) rfl ?_
 rintro v9 w10 ⟨o9, k10, lb4, _⟩
 replace hB := hB.new k10 (fun x hx => .inl (Nat.le_trans ge_b1 (Nat.le_of_lt (o6.blk x hx).1)))
 replace hb1 := hb1.keep k10 (fun hm => absurd (o6.blk _ hm).1 (Nat.lt_irrefl _))
 refine ow_g (g_as rfl) rfl (ow_nil (tw_keep [(2, _)] ⟨rfl, trivial⟩ ?_))
 refine tw_ret1 hfin Try.results78 rfl ?_
 have hh := o9
 rw [ctx_app hj1 hj3] at hh
 exact ⟨(show OwnB _ _ _ _ by unfold OwnB; have hl : (ctxT c).length = _ := congrArg List.length (ctx_app hj1 hj3).symm; simp only [List.length_append] at hl; rw [hl]; simpa using hh).lo (by omega), hB⟩
set_option maxRecDepth 100000 in
set_option maxHeartbeats 1000000 in
theorem rputc_any (g t x : Value) (c : Ctx) (w : World) (hg : RdB w g c.g) (ht : RdB w t c.tr) (hx : RdB w x c.tx) : Rets Try.prog 120 [.agg [g, .int .i64 c.ep, t, x].toArray] w (fun v w' => ∃ u, v = .tuple #[u, .int .i64 (bif ctxOk c then 0 else 1)] ∧ OwnB w' w.heap.size u (bif ctxOk c then ctxT c else []) ∧ Keep [] w w') := by
 have hB : Keep [] w w := Keep.refl _ _
 refine rets_of_tw Try.func120 rfl (by decide) Try.ntmps120 rfl (fun fin _ hfin => ?_)
 refine tw_seq (tw_region (ow_d (d_box (cs := [g, .int .i64 c.ep, t, x]) rfl rfl) rfl ?_))
 rintro _ w1 ⟨b1, rfl, eb1, hb1, k1, z1⟩
 have ge_b1 : w.heap.size ≤ b1 := by have := hB.size; omega
 replace hB := hB.trans k1
 clear eb1 z1
 refine ow_g (g_as rfl) rfl (ow_g (g_as rfl) rfl (ow_nil (tw_seq (tw_seq (tw_region (ow_g (g_ldab (cs' := [_, _, _, _]) ag81 ty81 rfl hb1 rfl rfl) rfl ?_))))))
 refine ow_d (d_call (vs := [_]) rfl (ctxright_any _ _ _ _ c _ (by first | assumption | exact Own.rd ‹_› | exact Rd.keep0 ‹_› hB | exact Own.rd (Own.keep0 ‹_› hB)) (by first | assumption | exact Own.rd ‹_› | exact Rd.keep0 ‹_› hB | exact Own.rd (Own.keep0 ‹_› hB)) (by first | assumption | exact Own.rd ‹_› | exact Rd.keep0 ‹_› hB | exact Own.rd (Own.keep0 ‹_› hB)) rfl)) rfl ?_
 rintro _ w2 ⟨rfl, k2⟩
 replace hb1 := hb1.keep0 k2
 replace hB := hB.trans k2
 refine ow_g (g_not rfl) rfl ?_
 refine ow_nil (tw_cond rfl (fun hc1 => ?_) (fun hc1 => ?_))
 ·
  have hd1 := hc1
  try (simp only [Bool.and_eq_true, Bool.or_eq_true, decide_eq_true_eq, Bool.and_eq_false_iff, Bool.or_eq_false_iff, decide_eq_false_iff_not, Bool.not_eq_true', Bool.not_eq_false', Bool.not_eq_true, Bool.not_eq_false, ne_eq, Decidable.not_not, decide_true, decide_false, Bool.true_and, Bool.false_and, Bool.or_false, Bool.false_or, not_true_eq_false, false_or, or_false, true_and, and_true, not_false_eq_true, reduceCtorEq] at hd1)
  refine tw_seq (tw_region (ow_g (g_as rfl) rfl (ow_g (g_as rfl) rfl (ow_nil (tw_ret2 hfin Try.results120 rfl rfl ?_)))))
  have hok : ctxOk c = false := by simpa using hc1
  exact ⟨_, by rw [hok]; rfl, by rw [hok]; exact own_nil _ _ _ _, hB⟩
 ·
  have hd2 := hc1
  try (simp only [Bool.and_eq_true, Bool.or_eq_true, decide_eq_true_eq, Bool.and_eq_false_iff, Bool.or_eq_false_iff, decide_eq_false_iff_not, Bool.not_eq_true', Bool.not_eq_false', Bool.not_eq_true, Bool.not_eq_false, ne_eq, Decidable.not_not, decide_true, decide_false, Bool.true_and, Bool.false_and, Bool.or_false, Bool.false_or, not_true_eq_false, false_or, or_false, true_and, and_true, not_false_eq_true, reduceCtorEq] at hd2)
  refine tw_skip (tw_seq (tw_region (ow_g (g_ldab (cs' := [_, _, _, _]) ag81 ty81 rfl hb1 rfl rfl) rfl ?_)))
  refine ow_d (d_call (vs := [_]) rfl (rctxb_any _ _ _ c _ (by first | assumption | exact Own.rd ‹_› | exact Rd.keep0 ‹_› hB | exact Own.rd (Own.keep0 ‹_› hB)) (by first | assumption | exact Own.rd ‹_› | exact Rd.keep0 ‹_› hB | exact Own.rd (Own.keep0 ‹_› hB)) (by first | assumption | exact Own.rd ‹_› | exact Rd.keep0 ‹_› hB | exact Own.rd (Own.keep0 ‹_› hB)) (by simpa using hc1))) rfl ?_
  rintro v1 w3 ⟨o1, k3⟩
  have gl_o1 := hB.size
  have sb_b1_o1 := fun x hx => (show x ≠ b1 from by have h1 := (o1.blk x hx).1; have h2 := hb1.lt; omega)
  replace hb1 := hb1.keep0 k3
  replace hB := hB.trans k3
  have u_o1 := o1.blk
  refine ow_g (g_as rfl) rfl (ow_g (g_as rfl) rfl (ow_nil (tw_ret2 hfin Try.results120 rfl rfl ?_)))
  have hok : ctxOk c = true := by simpa using hc1
  exact ⟨_, by rw [hok]; rfl, by rw [hok]; exact o1.lo gl_o1, hB⟩
end Go.Proofs.Ytimeclfplaonkaa.W
namespace Go.Proofs.Ytimeclfplaonkaa.W
open Go Go.Eng Go.Byt
set_option linter.unusedVariables false
set_option linter.unusedSimpArgs false
set_option maxRecDepth 100000 in
set_option maxHeartbeats 1000000 in
theorem gnumber_any (n size : Int) (hs : size = 1 ∨ size = 2 ∨ size = 4 ∨ size = 8) (w : World) : Rets Try.prog 119 [.int .i64 n, .int .i64 size] w (fun u w' => OwnB w' w.heap.size u (numB (bitsOf size) n size) ∧ Keep [] w w') := by
 have hB : Keep [] w w := Keep.refl _ _
 refine rets_of_tw Try.func119 rfl (by decide) Try.ntmps119 rfl (fun fin _ hfin => ?_)
 refine tw_seq (tw_region (ow_g (g_as rfl) rfl (ow_nil (tw_seq (tw_region (ow_g (g_mv rfl) rfl ?_))))))
 refine ow_g (g_mv rfl) rfl (ow_d (d_call (vs := [_, _]) rfl (number_any n size hs _)) rfl ?_)
 rintro _ w1 ⟨u1, rfl, o1, k1⟩
 have gl_o1 := hB.size
 replace hB := hB.trans k1
 have u_o1 := o1.blk
 refine ow_g (g_mv rfl) rfl (ow_g (g_ext (vs := [_, _]) rfl rfl) rfl ?_)
 refine ow_g (g_ext (vs := [_, _]) rfl rfl) rfl ?_
 refine ow_g (g_as rfl) rfl (ow_g (g_as rfl) rfl (ow_nil (tw_keep [(5, _)] ⟨rfl, trivial⟩ ?_)))
 refine tw_seq (tw_region (ow_g (g_mv rfl) rfl (ow_g (g_as rfl) rfl (ow_nil (tw_ret1 hfin Try.results119 rfl ?_)))))
 exact ⟨o1.lo gl_o1, hB⟩
set_option maxRecDepth 100000 in
set_option maxHeartbeats 1000000 in
theorem samectx_any (g t x g2 t2 x2 : Value) (c : Ctx) (w : World) (hg : RdB w g c.g) (ht : RdB w t c.tr) (hx : RdB w x c.tx) (hg2 : RdB w g2 c.g) (ht2 : RdB w t2 c.tr) (hx2 : RdB w x2 c.tx) : Rets Try.prog 82 [.agg [g, .int .i64 c.ep, t, x].toArray, .agg [g2, .int .i64 c.ep, t2, x2].toArray] w (fun v w' => v = .bool true ∧ Keep [] w w') := by
 have hB : Keep [] w w := Keep.refl _ _
 refine rets_of_tw Try.func82 rfl (by decide) Try.ntmps82 rfl (fun fin _ hfin => ?_)
 refine tw_seq (tw_region (ow_d (d_box (cs := [g, .int .i64 c.ep, t, x]) rfl rfl) rfl ?_))
 rintro _ w1 ⟨b1, rfl, eb1, hb1, k1, z1⟩
 have ge_b1 : w.heap.size ≤ b1 := by have := hB.size; omega
 replace hB := hB.trans k1
 clear eb1 z1
 refine ow_d (d_box (cs := [g2, .int .i64 c.ep, t2, x2]) rfl rfl) rfl ?_
 rintro _ w2 ⟨b2, rfl, eb2, hb2, k2, z2⟩
 have ge_b2 : w.heap.size ≤ b2 := by have := hB.size; omega
 have ne_b1_b2 : b1 ≠ b2 := by have := hb1.lt; omega
 replace hb1 := hb1.keep0 k2
 replace hB := hB.trans k2
 clear eb2 z2
 refine ow_g (g_as rfl) rfl (ow_nil (tw_seq (tw_region (ow_g (g_faE 0 Try.underlying84 rfl ty23 (by decide) rfl rfl) rfl ?_))))
 refine ow_g (g_ldb sc23 rfl hb1 rfl) rfl ?_
 refine ow_g (g_str Try.underlying23 Try.underlying5 Try.underlying9 rfl (by first | assumption | exact Own.rd ‹_› | exact Rd.keep0 ‹_› hB | exact Own.rd (Own.keep0 ‹_› hB))) rfl ?_
 refine ow_g (g_faE 0 Try.underlying81 rfl ty23 (by decide) rfl rfl) rfl ?_
 refine ow_g (g_ldb sc23 rfl hb2 rfl) rfl ?_
 refine ow_g (g_str Try.underlying23 Try.underlying5 Try.underlying9 rfl (by first | assumption | exact Own.rd ‹_› | exact Rd.keep0 ‹_› hB | exact Own.rd (Own.keep0 ‹_› hB))) rfl ?_
 refine ow_g (g_eqs rfl rfl) rfl ?_
 refine ow_g (g_mv rfl) rfl (ow_gy (grdT rfl rfl rfl (decide_eq_true rfl)) (g_faE 1 Try.underlying84 rfl ty3 (by decide) rfl rfl) rfl ?_)
 refine ow_gy (grdT rfl rfl rfl (decide_eq_true rfl)) (g_ldb sc3 rfl hb1 rfl) rfl ?_
 refine ow_gy (grdT rfl rfl rfl (decide_eq_true rfl)) (g_faE 1 Try.underlying81 rfl ty3 (by decide) rfl rfl) rfl ?_
 refine ow_gy (grdT rfl rfl rfl (decide_eq_true rfl)) (g_ldb sc3 rfl hb2 rfl) rfl ?_
 refine ow_gy (grdT rfl rfl rfl (decide_eq_true rfl)) (g_eq rfl rfl) rfl ?_
 refine ow_g (g_pickT rfl (decide_eq_true rfl) rfl) rfl ?_
 refine ow_g (g_mv rfl) rfl (ow_gy (grdT rfl rfl rfl (decide_eq_true rfl)) (g_faE 2 Try.underlying84 rfl ty23 (by decide) rfl rfl) rfl ?_)
 refine ow_gy (grdT rfl rfl rfl (decide_eq_true rfl)) (g_ldb sc23 rfl hb1 rfl) rfl ?_
 refine ow_gy (grdT rfl rfl rfl (decide_eq_true rfl)) (g_str Try.underlying23 Try.underlying5 Try.underlying9 rfl (by first | assumption | exact Own.rd ‹_› | exact Rd.keep0 ‹_› hB | exact Own.rd (Own.keep0 ‹_› hB))) rfl ?_
 refine ow_gy (grdT rfl rfl rfl (decide_eq_true rfl)) (g_faE 2 Try.underlying81 rfl ty23 (by decide) rfl rfl) rfl ?_
 refine ow_gy (grdT rfl rfl rfl (decide_eq_true rfl)) (g_ldb sc23 rfl hb2 rfl) rfl ?_
 refine ow_gy (grdT rfl rfl rfl (decide_eq_true rfl)) (g_str Try.underlying23 Try.underlying5 Try.underlying9 rfl (by first | assumption | exact Own.rd ‹_› | exact Rd.keep0 ‹_› hB | exact Own.rd (Own.keep0 ‹_› hB))) rfl ?_
 refine ow_gy (grdT rfl rfl rfl (decide_eq_true rfl)) (g_eqs rfl rfl) rfl ?_
 refine ow_g (g_pickT rfl (decide_eq_true rfl) rfl) rfl ?_
 refine ow_g (g_mv rfl) rfl (ow_gy (grdT rfl rfl rfl (decide_eq_true rfl)) (g_faE 3 Try.underlying84 rfl ty23 (by decide) rfl rfl) rfl ?_)
 refine ow_gy (grdT rfl rfl rfl (decide_eq_true rfl)) (g_ldb sc23 rfl hb1 rfl) rfl ?_
 refine ow_gy (grdT rfl rfl rfl (decide_eq_true rfl)) (g_str Try.underlying23 Try.underlying5 Try.underlying9 rfl (by first | assumption | exact Own.rd ‹_› | exact Rd.keep0 ‹_› hB | exact Own.rd (Own.keep0 ‹_› hB))) rfl ?_
 refine ow_gy (grdT rfl rfl rfl (decide_eq_true rfl)) (g_faE 3 Try.underlying81 rfl ty23 (by decide) rfl rfl) rfl ?_
 refine ow_gy (grdT rfl rfl rfl (decide_eq_true rfl)) (g_ldb sc23 rfl hb2 rfl) rfl ?_
 refine ow_gy (grdT rfl rfl rfl (decide_eq_true rfl)) (g_str Try.underlying23 Try.underlying5 Try.underlying9 rfl (by first | assumption | exact Own.rd ‹_› | exact Rd.keep0 ‹_› hB | exact Own.rd (Own.keep0 ‹_› hB))) rfl ?_
 refine ow_gy (grdT rfl rfl rfl (decide_eq_true rfl)) (g_eqs rfl rfl) rfl ?_
 refine ow_g (g_pickT rfl (decide_eq_true rfl) rfl) rfl ?_
 refine ow_g (g_as rfl) rfl (ow_nil (tw_keep [(4, _)] ⟨rfl, trivial⟩ ?_))
 refine tw_ret1 hfin Try.results82 rfl ?_
 exact ⟨by simp, hB⟩
set_option maxRecDepth 100000 in
set_option maxHeartbeats 1000000 in
theorem copied16_any (v : Value) (xs : List UInt8) (w : World) (hv : RdB w v xs) (hx : xs.length ≤ 140737488355328) : Rets Try.prog 116 [v] w (fun u w' => OwnB w' w.heap.size u xs ∧ Keep [] w w') := by
 have hB : Keep [] w w := Keep.refl _ _
 refine rets_of_tw Try.func116 rfl (by decide) Try.ntmps116 rfl (fun fin _ hfin => ?_)
 refine tw_seq (tw_region (ow_g (g_as rfl) rfl (ow_nil (tw_seq (tw_region (ow_d (d_bs (m := 0) (xs := []) (vs := []) Try.underlying23 ty5 (by decide) rfl rfl rfl (by first | (simp; done) | (intro v hv; rw [List.mem_singleton] at hv; subst hv; rfl)) (by decide)) rfl ?_))))))
 rintro v1 w1 ⟨o1, nn1, lb1, k1, z1⟩
 have z_k1 := k1.size
 replace hB := hB.trans k1
 have u_o1 := o1.blk
 replace o1 : Own w1 _ _ 1 v1 0 (bv []) := o1
 refine ow_g (g_mv rfl) rfl (ow_d (d_appB  Try.underlying23 ty5 rfl (by first | assumption | exact own_nil _ _ _ _) rfl (by first | assumption | exact Own.rd ‹_› | exact Rd.keep0 ‹_› hB | exact Own.rd (Own.keep0 ‹_› hB)) (by first | omega | (simp only [bv_length, List.length_append, Int.toNat_natCast] at *; omega)) (by have := hB.size; omega)) rfl ?_)
 rintro v2 w2 ⟨o2, k2, lb2, nn2⟩
 have z_k2 := k2.size
 replace hB := hB.new k2 (fun x hx => .inl (o1.blk x hx).1)
 have u_o2 := fun x hx => (lb2 x hx).elim (fun h => Or.inl (u_o1 x h)) (fun h => Or.inr (And.intro h (o2.blk x hx).2))
 refine ow_g (g_as rfl) rfl (ow_nil (tw_ret1 hfin Try.results116 rfl ?_))
 exact ⟨by simpa [OwnB] using o2, hB⟩
set_option maxRecDepth 100000 in
set_option maxHeartbeats 1000000 in
theorem sized_any (n : Int) (w : World) : Rets Try.prog 110 [.int .i64 n] w (fun v w' => v = .bool (decide (n = 1) || decide (n = 2) || decide (n = 4) || decide (n = 8)) ∧ w = w') := by
 refine rets_of_tw Try.func110 rfl (by decide) Try.ntmps110 rfl (fun fin _ hfin => ?_)
 refine tw_seq (tw_region (ow_g (g_as rfl) rfl (ow_nil (tw_seq (tw_region (ow_g (g_mv rfl) rfl ?_))))))
 refine ow_g (g_eq rfl rfl) rfl ?_
 refine ow_g (g_mv rfl) rfl (ow_grp 5 false rfl (fun c1 hgc1 => ?_))
 refine ow_gg [(0, _)] (grd1 rfl rfl rfl hgc1) ⟨und0 rfl, trivial⟩ (fun hw1 => g_mv rfl) rfl ?_
 refine ow_gg [(6, _)] (grd1 rfl rfl rfl hgc1) ⟨und1 rfl, trivial⟩ (fun hw2 => g_eq rfl rfl) rfl ?_
 refine ow_g (g_por rfl rfl hgc1) rfl ?_
 refine ow_g (g_mv rfl) rfl (ow_grp 9 false rfl (fun c2 hgc2 => ?_))
 refine ow_gg [(0, _)] (grd1 rfl rfl rfl hgc2) ⟨und0 rfl, trivial⟩ (fun hw3 => g_mv rfl) rfl ?_
 refine ow_gg [(10, _)] (grd1 rfl rfl rfl hgc2) ⟨und1 rfl, trivial⟩ (fun hw4 => g_eq rfl rfl) rfl ?_
 refine ow_g (g_por rfl rfl hgc2) rfl ?_
 refine ow_g (g_mv rfl) rfl (ow_grp 13 false rfl (fun c3 hgc3 => ?_))
 refine ow_gg [(0, _)] (grd1 rfl rfl rfl hgc3) ⟨und0 rfl, trivial⟩ (fun hw5 => g_mv rfl) rfl ?_
 refine ow_gg [(14, _)] (grd1 rfl rfl rfl hgc3) ⟨und1 rfl, trivial⟩ (fun hw6 => g_eq rfl rfl) rfl ?_
 refine ow_g (g_por rfl rfl hgc3) rfl ?_
 refine ow_g (g_as rfl) rfl (ow_nil (tw_ret1 hfin Try.results110 rfl ?_))
 exact ⟨rfl, rfl⟩
end Go.Proofs.Ytimeclfplaonkaa.W
namespace Go.Proofs.Ytimeclfplaonkaa.W
open Go Go.Eng Go.Byt
set_option linter.unusedVariables false
set_option linter.unusedSimpArgs false
def ctxB (c : Ctx) : List UInt8 := bif ctxOk c then ctxT c else []
def txOk (i : Inf) : Bool := ctxOk i.c && decide (i.tree.length ≤ 60000) && decide (i.conf.length = 32) && decide (i.outer.length = 32) && decide (0 ≤ i.signer) && decide (i.signer < 64)
def txB (i : Inf) : List UInt8 := [vecsB [ctxB i.c, i.tree, i.conf, i.outer], numB (bitsOf 4) i.signer 4].flatten
theorem infOk_tx (i : Inf) : infOk i = (txOk i && decide (i.sig.length = 64)) := rfl
theorem vecsB_len {ls : List (List UInt8)} (h : ls.length ≤ 1000) : (vecsB ls).length ≤ 65540000 := by
  unfold vecsB; split
  · rename_i ha; have := vecs_short ha; omega
  · simp
theorem numB_len (b n : Int) (s : Int) : (numB b n s).length ≤ s.toNat := by
  unfold numB; split
  · rw [be_length]; exact Nat.le_refl _
  · simp
theorem txB_len (i : Inf) : (txB i).length ≤ 65540004 := by
  have h1 := vecsB_len (ls := [ctxB i.c, i.tree, i.conf, i.outer]) (by simp)
  have h2 := numB_len (bitsOf 4) i.signer 4
  unfold txB; simp only [List.flatten_cons, List.flatten_nil, List.length_append, List.append_nil]; omega
set_option maxRecDepth 100000 in
set_option maxHeartbeats 1000000 in
theorem text_any (g t x tr co ou sg : Value) (i : Inf) (w : World) (hg : RdB w g i.c.g) (ht : RdB w t i.c.tr) (hx : RdB w x i.c.tx) (h1 : RdB w tr i.tree) (h2 : RdB w co i.conf) (h3 : RdB w ou i.outer) (h4 : RdB w sg i.sig) : Rets Try.prog 76 [.agg [g, .int .i64 i.c.ep, t, x, tr, co, ou, .int .i64 i.signer, sg].toArray] w (fun v w' => ∃ u, v = .tuple #[u, .bool (txOk i)] ∧ OwnB w' w.heap.size u (txB i) ∧ Keep [] w w') := by
  have hB : Keep [] w w := Keep.refl _ _
  refine rets_of_tw Try.func76 rfl (by decide) Try.ntmps76 rfl (fun fin _ hfin => ?_)
  refine tw_seq ?_
  refine tw_region ?_
  refine ow_d (d_box (cs := [g, .int .i64 i.c.ep, t, x, tr, co, ou, .int .i64 i.signer, sg]) rfl rfl) rfl ?_
  rintro _ w1 ⟨b1, rfl, eb1, hb1, k1, z1⟩
  have ge_b1 : w.heap.size ≤ b1 := by have := hB.size; omega
  replace hB := hB.trans k1
  clear eb1 z1
  refine ow_g (g_as rfl) rfl ?_
  refine ow_g (g_as rfl) rfl ?_
  refine ow_nil ?_
  refine tw_seq ?_
  refine tw_region ?_
  refine ow_g (g_faE 0 Try.underlying86 rfl ty84 (by decide) rfl rfl) rfl ?_
  refine ow_g (g_ldab (cs' := [_, _, _, _]) ag84 ty84 rfl hb1 rfl rfl) rfl ?_
  refine ow_d (d_call (vs := [_]) rfl (putc_any _ _ _ _ i.c _ (by first | assumption | exact Own.rd (by assumption) | exact Rd.keep0 (by assumption) hB | exact Own.rd (Own.keep0 (by assumption) hB)) (by first | assumption | exact Own.rd (by assumption) | exact Rd.keep0 (by assumption) hB | exact Own.rd (Own.keep0 (by assumption) hB)) (by first | assumption | exact Own.rd (by assumption) | exact Rd.keep0 (by assumption) hB | exact Own.rd (Own.keep0 (by assumption) hB)) rfl)) rfl ?_
  rintro _ w2 ⟨u1, rfl, o1, k2⟩
  have gl_o1 := hB.size
  have sb_b1_o1 := fun x hx => (show x ≠ b1 from by have h1 := (o1.blk x hx).1; have h2 := hb1.lt; omega)
  replace hb1 := hb1.keep0 k2
  replace hB := hB.trans k2
  have u_o1 := o1.blk
  refine ow_g (g_mv rfl) rfl ?_
  refine ow_g (g_ext (vs := [_, _]) rfl rfl) rfl ?_
  refine ow_g (g_ext (vs := [_, _]) rfl rfl) rfl ?_
  refine ow_g (g_as rfl) rfl ?_
  refine ow_g (g_as rfl) rfl ?_
  refine ow_nil ?_
  refine tw_seq ?_
  refine tw_region ?_
  refine ow_g (g_mv rfl) rfl ?_
  refine ow_g (g_eq rfl rfl) rfl ?_
  refine ow_g (g_mv rfl) rfl ?_
  refine ow_grp 15 true rfl (fun c1 hgc1 => ?_)
  refine ow_gg [(1, _)] (grd1 rfl rfl rfl hgc1) ⟨und0 rfl, trivial⟩ (fun hw1 => g_faE 4 Try.underlying86 rfl ty23 (by decide) rfl rfl) rfl ?_
  refine ow_gg [(16, _)] (grd1 rfl rfl rfl hgc1) ⟨und1 rfl, trivial⟩ (fun hw2 => g_ldb sc23 rfl hb1 rfl) rfl ?_
  refine ow_gg [(17, _)] (grd1 rfl rfl rfl hgc1) ⟨und1 rfl, trivial⟩ (fun hw3 => g_len Try.underlying23 rfl (by first | assumption | exact Own.rd (by assumption) | exact Rd.keep0 (by assumption) hB | exact Own.rd (Own.keep0 (by assumption) hB))) rfl ?_
  refine ow_gg [(18, _)] (grd1 rfl rfl rfl hgc1) ⟨und1 rfl, trivial⟩ (fun hw4 => g_le rfl rfl) rfl ?_
  refine ow_g (g_pand rfl rfl hgc1) rfl ?_
  refine ow_g (g_mv rfl) rfl ?_
  refine ow_grp 21 true rfl (fun c2 hgc2 => ?_)
  refine ow_gg [(1, _)] (grd1 rfl rfl rfl hgc2) ⟨und0 rfl, trivial⟩ (fun hw5 => g_faE 5 Try.underlying86 rfl ty23 (by decide) rfl rfl) rfl ?_
  refine ow_gg [(22, _)] (grd1 rfl rfl rfl hgc2) ⟨und1 rfl, trivial⟩ (fun hw6 => g_ldb sc23 rfl hb1 rfl) rfl ?_
  refine ow_gg [(23, _)] (grd1 rfl rfl rfl hgc2) ⟨und1 rfl, trivial⟩ (fun hw7 => g_len Try.underlying23 rfl (by first | assumption | exact Own.rd (by assumption) | exact Rd.keep0 (by assumption) hB | exact Own.rd (Own.keep0 (by assumption) hB))) rfl ?_
  refine ow_gg [(24, _)] (grd1 rfl rfl rfl hgc2) ⟨und1 rfl, trivial⟩ (fun hw8 => g_eq rfl rfl) rfl ?_
  refine ow_g (g_pand rfl rfl hgc2) rfl ?_
  refine ow_g (g_mv rfl) rfl ?_
  refine ow_grp 27 true rfl (fun c3 hgc3 => ?_)
  refine ow_gg [(1, _)] (grd1 rfl rfl rfl hgc3) ⟨und0 rfl, trivial⟩ (fun hw9 => g_faE 6 Try.underlying86 rfl ty23 (by decide) rfl rfl) rfl ?_
  refine ow_gg [(28, _)] (grd1 rfl rfl rfl hgc3) ⟨und1 rfl, trivial⟩ (fun hw10 => g_ldb sc23 rfl hb1 rfl) rfl ?_
  refine ow_gg [(29, _)] (grd1 rfl rfl rfl hgc3) ⟨und1 rfl, trivial⟩ (fun hw11 => g_len Try.underlying23 rfl (by first | assumption | exact Own.rd (by assumption) | exact Rd.keep0 (by assumption) hB | exact Own.rd (Own.keep0 (by assumption) hB))) rfl ?_
  refine ow_gg [(30, _)] (grd1 rfl rfl rfl hgc3) ⟨und1 rfl, trivial⟩ (fun hw12 => g_eq rfl rfl) rfl ?_
  refine ow_g (g_pand rfl rfl hgc3) rfl ?_
  refine ow_g (g_mv rfl) rfl ?_
  refine ow_grp 33 true rfl (fun c4 hgc4 => ?_)
  refine ow_gg [(1, _)] (grd1 rfl rfl rfl hgc4) ⟨und0 rfl, trivial⟩ (fun hw13 => g_faE 7 Try.underlying86 rfl ty3 (by decide) rfl rfl) rfl ?_
  refine ow_gg [(34, _)] (grd1 rfl rfl rfl hgc4) ⟨und1 rfl, trivial⟩ (fun hw14 => g_ldb sc3 rfl hb1 rfl) rfl ?_
  refine ow_gg [(35, _)] (grd1 rfl rfl rfl hgc4) ⟨und1 rfl, trivial⟩ (fun hw15 => g_ge rfl rfl) rfl ?_
  refine ow_g (g_pand rfl rfl hgc4) rfl ?_
  refine ow_g (g_mv rfl) rfl ?_
  refine ow_grp 38 true rfl (fun c5 hgc5 => ?_)
  refine ow_gg [(1, _)] (grd1 rfl rfl rfl hgc5) ⟨und0 rfl, trivial⟩ (fun hw16 => g_faE 7 Try.underlying86 rfl ty3 (by decide) rfl rfl) rfl ?_
  refine ow_gg [(39, _)] (grd1 rfl rfl rfl hgc5) ⟨und1 rfl, trivial⟩ (fun hw17 => g_ldb sc3 rfl hb1 rfl) rfl ?_
  refine ow_gg [(40, _)] (grd1 rfl rfl rfl hgc5) ⟨und1 rfl, trivial⟩ (fun hw18 => g_lt rfl rfl) rfl ?_
  refine ow_g (g_pand rfl rfl hgc5) rfl ?_
  refine ow_g (g_bval (b' := txOk i) (g_as rfl) (by
      have e0 : decide ((bif ctxOk i.c then (0 : Int) else 1) = 0) = ctxOk i.c := by cases ctxOk i.c <;> rfl
      have e1 : ∀ (n k : Nat), decide ((n : Int) ≤ (k : Int)) = decide (n ≤ k) := fun n k => by rw [decide_eq_decide]; omega
      have e2 : ∀ (n k : Nat), decide ((n : Int) = (k : Int)) = decide (n = k) := fun n k => by rw [decide_eq_decide]; omega
      unfold txOk
      rw [e0, ← e1 _ 60000, ← e2 _ 32, ← e2 _ 32]; rfl)) rfl ?_
  have gl_w := hB.size
  refine ow_nil ?_
  refine tw_keep [(1, _), (4, _), (6, _)] ⟨rfl, rfl, rfl, trivial⟩ ?_
  refine tw_seq ?_
  refine tw_drawnT 16 mixed [(4, _), (1, _), (6, _)] (fun jj v W => match jj with | 0 => v = u1 | 1 => v = .pointer (some ⟨b1, 4, none⟩) | 2 => v = tr | 3 => v = .pointer (some ⟨b1, 5, none⟩) | 4 => v = co | 5 => v = .pointer (some ⟨b1, 6, none⟩) | 6 => v = ou | 7 => SlL W w2.heap.size 23 v [ctxB i.c, i.tree, i.conf, i.outer] | 8 => OwnB W w2.heap.size v (vecsB [ctxB i.c, i.tree, i.conf, i.outer]) | 9 => v = .pointer (some ⟨b1, 7, none⟩) | 10 => v = .int .i64 i.signer | 11 => OwnB W w2.heap.size v (numB (bitsOf 4) i.signer 4) | 12 => SlL W w2.heap.size 23 v [vecsB [ctxB i.c, i.tree, i.conf, i.outer], numB (bitsOf 4) i.signer 4] | 13 => OwnB W w2.heap.size v ([vecsB [ctxB i.c, i.tree, i.conf, i.outer], numB (bitsOf 4) i.signer 4].flatten) | 14 => v = .bool (txOk i) | 15 => OwnB W w2.heap.size v ([vecsB [ctxB i.c, i.tree, i.conf, i.outer], numB (bitsOf 4) i.signer 4].flatten) | _ => True) ⟨rfl, rfl, rfl, trivial⟩ (by decide) (by decide) rfl ?_ ?_ ?_
  · intro jj v W W' h k
    match jj, h with
    | 0, h => exact h
    | 1, h => exact h
    | 2, h => exact h
    | 3, h => exact h
    | 4, h => exact h
    | 5, h => exact h
    | 6, h => exact h
    | 7, h => exact h.keep0 k
    | 8, h => exact h.keep0 k
    | 9, h => exact h
    | 10, h => exact h
    | 11, h => exact h.keep0 k
    | 12, h => exact h.keep0 k
    | 13, h => exact h.keep0 k
    | 14, h => exact h
    | 15, h => exact h.keep0 k
    | _ + 16, _ => trivial
  · refine ⟨?_, ?_, ?_, ?_, ?_, ?_, ?_, ?_, ?_, ?_, ?_, ?_, ?_, ?_, ?_, ?_, trivial⟩
    · refine ⟨[], rfl, ?_⟩; rintro W1 hk vs hd
      replace hb1 := hb1.keep0 hk
      replace o1 := o1.keep0 hk
      replace hB := hB.trans hk
      refine ⟨true, fun a _ => rfl, fun _ => ?_, fun h => by cases h⟩
      refine does_sub [(4, _)] ⟨rfl, trivial⟩ ?_
      refine (Gives.does (g_mv rfl)).mono ?_
      rintro v W2 ⟨rfl, rfl⟩
      exact ⟨Keep.refl _ _, rfl⟩
    · refine ⟨[], rfl, ?_⟩; rintro W1 hk vs hd
      replace hb1 := hb1.keep0 hk
      replace o1 := o1.keep0 hk
      replace hB := hB.trans hk
      refine ⟨true, fun a _ => rfl, fun _ => ?_, fun h => by cases h⟩
      refine does_sub [(1, _)] ⟨rfl, trivial⟩ ?_
      refine (Gives.does (g_faE 4 Try.underlying86 rfl ty23 (by decide) rfl rfl)).mono ?_
      rintro v W2 ⟨rfl, rfl⟩
      exact ⟨Keep.refl _ _, rfl⟩
    · refine ⟨[1], rfl, ?_⟩; rintro W1 hk vs hd
      have d1 : (vs 1) = .pointer (some ⟨b1, 4, none⟩) := hd 1 (by decide)
      replace hb1 := hb1.keep0 hk
      replace o1 := o1.keep0 hk
      replace hB := hB.trans hk
      refine ⟨true, fun a _ => rfl, fun _ => ?_, fun h => by cases h⟩
      refine does_sub [(44, .pointer (some ⟨b1, 4, none⟩))] ⟨congrArg some d1, trivial⟩ ?_
      refine (Gives.does (g_ldb sc23 rfl hb1 rfl)).mono ?_
      rintro v W2 ⟨rfl, rfl⟩
      exact ⟨Keep.refl _ _, rfl⟩
    · refine ⟨[], rfl, ?_⟩; rintro W1 hk vs hd
      replace hb1 := hb1.keep0 hk
      replace o1 := o1.keep0 hk
      replace hB := hB.trans hk
      refine ⟨true, fun a _ => rfl, fun _ => ?_, fun h => by cases h⟩
      refine does_sub [(1, _)] ⟨rfl, trivial⟩ ?_
      refine (Gives.does (g_faE 5 Try.underlying86 rfl ty23 (by decide) rfl rfl)).mono ?_
      rintro v W2 ⟨rfl, rfl⟩
      exact ⟨Keep.refl _ _, rfl⟩
    · refine ⟨[3], rfl, ?_⟩; rintro W1 hk vs hd
      have d3 : (vs 3) = .pointer (some ⟨b1, 5, none⟩) := hd 3 (by decide)
      replace hb1 := hb1.keep0 hk
      replace o1 := o1.keep0 hk
      replace hB := hB.trans hk
      refine ⟨true, fun a _ => rfl, fun _ => ?_, fun h => by cases h⟩
      refine does_sub [(46, .pointer (some ⟨b1, 5, none⟩))] ⟨congrArg some d3, trivial⟩ ?_
      refine (Gives.does (g_ldb sc23 rfl hb1 rfl)).mono ?_
      rintro v W2 ⟨rfl, rfl⟩
      exact ⟨Keep.refl _ _, rfl⟩
    · refine ⟨[], rfl, ?_⟩; rintro W1 hk vs hd
      replace hb1 := hb1.keep0 hk
      replace o1 := o1.keep0 hk
      replace hB := hB.trans hk
      refine ⟨true, fun a _ => rfl, fun _ => ?_, fun h => by cases h⟩
      refine does_sub [(1, _)] ⟨rfl, trivial⟩ ?_
      refine (Gives.does (g_faE 6 Try.underlying86 rfl ty23 (by decide) rfl rfl)).mono ?_
      rintro v W2 ⟨rfl, rfl⟩
      exact ⟨Keep.refl _ _, rfl⟩
    · refine ⟨[5], rfl, ?_⟩; rintro W1 hk vs hd
      have d5 : (vs 5) = .pointer (some ⟨b1, 6, none⟩) := hd 5 (by decide)
      replace hb1 := hb1.keep0 hk
      replace o1 := o1.keep0 hk
      replace hB := hB.trans hk
      refine ⟨true, fun a _ => rfl, fun _ => ?_, fun h => by cases h⟩
      refine does_sub [(48, .pointer (some ⟨b1, 6, none⟩))] ⟨congrArg some d5, trivial⟩ ?_
      refine (Gives.does (g_ldb sc23 rfl hb1 rfl)).mono ?_
      rintro v W2 ⟨rfl, rfl⟩
      exact ⟨Keep.refl _ _, rfl⟩
    · refine ⟨[0, 2, 4, 6], rfl, ?_⟩; rintro W1 hk vs hd
      have d0 : (vs 0) = u1 := hd 0 (by decide)
      have d2 : (vs 2) = tr := hd 2 (by decide)
      have d4 : (vs 4) = co := hd 4 (by decide)
      have d6 : (vs 6) = ou := hd 6 (by decide)
      replace hb1 := hb1.keep0 hk
      replace o1 := o1.keep0 hk
      replace hB := hB.trans hk
      refine ⟨true, fun a _ => rfl, fun _ => ?_, fun h => by cases h⟩
      refine does_sub [(43, u1), (45, tr), (47, co), (49, ou)] ⟨congrArg some d0, congrArg some d2, congrArg some d4, congrArg some d6, trivial⟩ ?_
      refine (d_bsL (m := 4) (ls := [ctxB i.c, i.tree, i.conf, i.outer]) (xs := [.tmp 43, .tmp 45, .tmp 47, .tmp 49]) (us := [_, _, _, _]) Try.underlying102 ty23 rfl rfl (rdL_cons (by first | exact Rd.nil _ _ | exact (by first | assumption | exact Own.rd (by assumption) | exact Rd.keep0 (by assumption) hB | exact Own.rd (Own.keep0 (by assumption) hB))) (rdL_cons (by first | exact Rd.nil _ _ | exact (by first | assumption | exact Own.rd (by assumption) | exact Rd.keep0 (by assumption) hB | exact Own.rd (Own.keep0 (by assumption) hB))) (rdL_cons (by first | exact Rd.nil _ _ | exact (by first | assumption | exact Own.rd (by assumption) | exact Rd.keep0 (by assumption) hB | exact Own.rd (Own.keep0 (by assumption) hB))) (rdL_cons (by first | exact Rd.nil _ _ | exact (by first | assumption | exact Own.rd (by assumption) | exact Rd.keep0 (by assumption) hB | exact Own.rd (Own.keep0 (by assumption) hB))) (rdL_nil _))))) rfl rfl).mono ?_
      rintro v W2 ⟨o1, k1⟩; exact ⟨k1, o1.lo hk.size⟩
    · refine ⟨[7], rfl, ?_⟩; rintro W1 hk vs hd
      have d7 : SlL W1 w2.heap.size 23 (vs 7) [ctxB i.c, i.tree, i.conf, i.outer] := hd 7 (by decide)
      replace hb1 := hb1.keep0 hk
      replace o1 := o1.keep0 hk
      replace hB := hB.trans hk
      refine ⟨true, fun a _ => rfl, fun _ => ?_, fun h => by cases h⟩
      refine does_sub [(50, vs 7)] ⟨rfl, trivial⟩ ?_
      refine (d_call (vs := [_]) rfl (gvectorsN_any _ [ctxB i.c, i.tree, i.conf, i.outer] _ _ (by assumption) (.inr (by simp)))).mono ?_
      rintro v W2 ⟨o1, k1⟩; exact ⟨k1, o1.lo hk.size⟩
    · refine ⟨[], rfl, ?_⟩; rintro W1 hk vs hd
      replace hb1 := hb1.keep0 hk
      replace o1 := o1.keep0 hk
      replace hB := hB.trans hk
      refine ⟨true, fun a _ => rfl, fun _ => ?_, fun h => by cases h⟩
      refine does_sub [(1, _)] ⟨rfl, trivial⟩ ?_
      refine (Gives.does (g_faE 7 Try.underlying86 rfl ty3 (by decide) rfl rfl)).mono ?_
      rintro v W2 ⟨rfl, rfl⟩
      exact ⟨Keep.refl _ _, rfl⟩
    · refine ⟨[9], rfl, ?_⟩; rintro W1 hk vs hd
      have d9 : (vs 9) = .pointer (some ⟨b1, 7, none⟩) := hd 9 (by decide)
      replace hb1 := hb1.keep0 hk
      replace o1 := o1.keep0 hk
      replace hB := hB.trans hk
      refine ⟨true, fun a _ => rfl, fun _ => ?_, fun h => by cases h⟩
      refine does_sub [(52, .pointer (some ⟨b1, 7, none⟩))] ⟨congrArg some d9, trivial⟩ ?_
      refine (Gives.does (g_ldb sc3 rfl hb1 rfl)).mono ?_
      rintro v W2 ⟨rfl, rfl⟩
      exact ⟨Keep.refl _ _, rfl⟩
    · refine ⟨[10], rfl, ?_⟩; rintro W1 hk vs hd
      have d10 : (vs 10) = .int .i64 i.signer := hd 10 (by decide)
      replace hb1 := hb1.keep0 hk
      replace o1 := o1.keep0 hk
      replace hB := hB.trans hk
      refine ⟨true, fun a _ => rfl, fun _ => ?_, fun h => by cases h⟩
      refine does_sub [(53, .int .i64 i.signer)] ⟨congrArg some d10, trivial⟩ ?_
      refine (d_call (vs := [_, _]) rfl (gnumber_any _ 4 (by decide) _)).mono ?_
      rintro v W2 ⟨o1, k1⟩; exact ⟨k1, o1.lo hk.size⟩
    · refine ⟨[8, 11], rfl, ?_⟩; rintro W1 hk vs hd
      have d8 : OwnB W1 w2.heap.size (vs 8) (vecsB [ctxB i.c, i.tree, i.conf, i.outer]) := hd 8 (by decide)
      have d11 : OwnB W1 w2.heap.size (vs 11) (numB (bitsOf 4) i.signer 4) := hd 11 (by decide)
      replace hb1 := hb1.keep0 hk
      replace o1 := o1.keep0 hk
      replace hB := hB.trans hk
      refine ⟨true, fun a _ => rfl, fun _ => ?_, fun h => by cases h⟩
      refine does_sub [(51, vs 8), (54, vs 11)] ⟨rfl, rfl, trivial⟩ ?_
      refine (d_bsL (m := 2) (ls := [vecsB [ctxB i.c, i.tree, i.conf, i.outer], numB (bitsOf 4) i.signer 4]) (xs := [.tmp 51, .tmp 54]) (us := [_, _]) Try.underlying102 ty23 rfl rfl (rdL_cons (by first | exact Rd.nil _ _ | exact (by first | assumption | exact Own.rd (by assumption) | exact Rd.keep0 (by assumption) hB | exact Own.rd (Own.keep0 (by assumption) hB))) (rdL_cons (by first | exact Rd.nil _ _ | exact (by first | assumption | exact Own.rd (by assumption) | exact Rd.keep0 (by assumption) hB | exact Own.rd (Own.keep0 (by assumption) hB))) (rdL_nil _))) rfl rfl).mono ?_
      rintro v W2 ⟨o1, k1⟩; exact ⟨k1, o1.lo hk.size⟩
    · refine ⟨[12], rfl, ?_⟩; rintro W1 hk vs hd
      have d12 : SlL W1 w2.heap.size 23 (vs 12) [vecsB [ctxB i.c, i.tree, i.conf, i.outer], numB (bitsOf 4) i.signer 4] := hd 12 (by decide)
      replace hb1 := hb1.keep0 hk
      replace o1 := o1.keep0 hk
      replace hB := hB.trans hk
      refine ⟨true, fun a _ => rfl, fun _ => ?_, fun h => by cases h⟩
      refine does_sub [(55, vs 12)] ⟨rfl, trivial⟩ ?_
      refine (d_call (vs := [_]) rfl (cconcat_any _ _ _ _ (by assumption) (by have := txB_len i; unfold txB at this; omega))).mono ?_
      rintro v W2 ⟨o1, k1⟩; exact ⟨k1, o1.lo hk.size⟩
    · refine ⟨[], rfl, ?_⟩; rintro W1 hk vs hd
      replace hb1 := hb1.keep0 hk
      replace o1 := o1.keep0 hk
      replace hB := hB.trans hk
      refine ⟨true, fun a _ => rfl, fun _ => ?_, fun h => by cases h⟩
      refine does_sub [(6, _)] ⟨rfl, trivial⟩ ?_
      refine (Gives.does (g_mv rfl)).mono ?_
      rintro v W2 ⟨rfl, rfl⟩
      exact ⟨Keep.refl _ _, rfl⟩
    · refine ⟨[13], rfl, ?_⟩; rintro W1 hk vs hd
      have d13 : OwnB W1 w2.heap.size (vs 13) ([vecsB [ctxB i.c, i.tree, i.conf, i.outer], numB (bitsOf 4) i.signer 4].flatten) := hd 13 (by decide)
      replace hb1 := hb1.keep0 hk
      replace o1 := o1.keep0 hk
      replace hB := hB.trans hk
      refine ⟨true, fun a _ => rfl, fun _ => ?_, fun h => by cases h⟩
      refine does_sub [(56, vs 13)] ⟨rfl, trivial⟩ ?_
      refine (Gives.does (g_as rfl)).mono ?_
      rintro v W2 ⟨rfl, rfl⟩
      exact ⟨Keep.refl _ _, d13⟩
  rintro w3 k3 vs hv
  replace hb1 := hb1.keep0 k3
  replace o1 := o1.keep0 k3
  replace hB := hB.trans k3
  have e57 : (vs 14) = .bool (txOk i) := hv 14 (by decide) rfl
  have e2 : OwnB w3 w2.heap.size (vs 15) ([vecsB [ctxB i.c, i.tree, i.conf, i.outer], numB (bitsOf 4) i.signer 4].flatten) := hv 15 (by decide) rfl
  refine ow_keep [(57, .bool (txOk i)), (2, vs 15), (4, _), (1, _), (6, _)] ⟨congrArg some e57, rfl, rfl, rfl, rfl, trivial⟩ ?_
  have o2 := e2
  have u_o2 := o2.blk
  refine ow_g (g_as rfl) rfl ?_
  refine ow_nil ?_
  refine tw_ret2 hfin Try.results76 rfl rfl ?_
  exact ⟨_, rfl, o2.lo gl_w, hB⟩
end Go.Proofs.Ytimeclfplaonkaa.W
namespace Go.Proofs.Ytimeclfplaonkaa.W
open Go Go.Eng Go.Byt
set_option linter.unusedVariables false
set_option linter.unusedSimpArgs false
set_option maxRecDepth 100000 in
set_option maxHeartbeats 1000000 in
theorem copied_any (v : Value) (xs : List UInt8) (w : World) (hv : RdB w v xs) (hx : xs.length ≤ 140737488355328) : Rets Try.prog 37 [v] w (fun u w' => OwnB w' w.heap.size u xs ∧ Keep [] w w') := by
 have hB : Keep [] w w := Keep.refl _ _
 refine rets_of_tw Try.func37 rfl (by decide) Try.ntmps37 rfl (fun fin _ hfin => ?_)
 refine tw_seq (tw_region (ow_g (g_as rfl) rfl (ow_nil (tw_seq (tw_region (ow_d (d_bs (m := 0) (xs := []) (vs := []) Try.underlying23 ty5 (by decide) rfl rfl rfl (by first | (simp; done) | (intro v hv; rw [List.mem_singleton] at hv; subst hv; rfl)) (by decide)) rfl ?_))))))
 rintro v1 w1 ⟨o1, nn1, lb1, k1, z1⟩
 have z_k1 := k1.size
 replace hB := hB.trans k1
 have u_o1 := o1.blk
 replace o1 : Own w1 _ _ 1 v1 0 (bv []) := o1
 refine ow_g (g_mv rfl) rfl (ow_d (d_appB  Try.underlying23 ty5 rfl (by first | assumption | exact own_nil _ _ _ _) rfl (by first | assumption | exact Own.rd ‹_› | exact Rd.keep0 ‹_› hB | exact Own.rd (Own.keep0 ‹_› hB)) (by first | omega | (simp only [bv_length, List.length_append, Int.toNat_natCast] at *; omega)) (by have := hB.size; omega)) rfl ?_)
 rintro v2 w2 ⟨o2, k2, lb2, nn2⟩
 have z_k2 := k2.size
 replace hB := hB.new k2 (fun x hx => .inl (o1.blk x hx).1)
 have u_o2 := fun x hx => (lb2 x hx).elim (fun h => Or.inl (u_o1 x h)) (fun h => Or.inr (And.intro h (o2.blk x hx).2))
 refine ow_g (g_as rfl) rfl (ow_nil (tw_ret1 hfin Try.results37 rfl ?_))
 exact ⟨by simpa [OwnB] using o2, hB⟩
set_option maxRecDepth 100000 in
set_option maxHeartbeats 1000000 in
theorem wnum_any (e : Int) (w : World) : Rets Try.prog 13 [.int .i64 e] w (fun r w' => r = .int .i64 e ∧ w = w') := by
 refine rets_of_tw Try.func13 rfl (by decide) Try.ntmps13 rfl (fun fin _ hfin => ?_)
 refine tw_seq (tw_region (ow_g (g_as rfl) rfl (ow_nil (tw_seq (tw_region (ow_g (g_mv rfl) rfl ?_))))))
 refine ow_g (g_as rfl) rfl (ow_nil (tw_ret1 hfin Try.results13 rfl ?_))
 exact ⟨rfl, rfl⟩
theorem wnum_k (e : Int) (w : World) : Rets Try.prog 13 [.int .i64 e] w (fun r w' => r = .int .i64 e ∧ Keep [] w w') := (wnum_any e w).mono fun _ _ ⟨h, e⟩ => ⟨h, e ▸ Keep.refl _ _⟩
end Go.Proofs.Ytimeclfplaonkaa.W
namespace Go.Proofs.Ytimeclfplaonkaa.W
open Go Go.Eng Go.Byt
set_option linter.unusedVariables false
set_option linter.unusedSimpArgs false
theorem numB_4 {n : Int} (h0 : 0 ≤ n) (h1 : n < 64) : numB (bitsOf 4) n 4 = be n 4 := by
  have hb : bitsOf 4 = 32 := by decide
  have e : numE 32 n = 0 := by
    unfold numE
    rw [if_neg (by decide), if_neg (by rw [show (2 : Int) ^ (32 : Int).toNat = 4294967296 from rfl]; omega)]
  unfold numB; rw [hb, if_pos e]; rfl
theorem tx_app {i : Inf} (h : infOk i = true) : txB i ++ vecsB [i.sig] = infT i := by
  obtain ⟨h1, h2, h3, h4, h5, h6, h7⟩ := infOk_iff.1 h
  have hl := ctxT_len h1
  have e1 : vecsB [ctxB i.c, i.tree, i.conf, i.outer] = vec (ctxT i.c) ++ (vec i.tree ++ (vec i.conf ++ vec i.outer)) := by
    have hc : ctxB i.c = ctxT i.c := by unfold ctxB; rw [h1]; rfl
    unfold vecsB; rw [hc, if_pos (by intro y hy; simp only [List.mem_cons, List.not_mem_nil, or_false] at hy; rcases hy with rfl | rfl | rfl | rfl <;> omega)]; simp [vecs]
  have e2 : vecsB [i.sig] = vec i.sig := by
    unfold vecsB; rw [if_pos (by intro y hy; simp only [List.mem_cons, List.not_mem_nil, or_false] at hy; subst hy; omega)]; simp [vecs]
  unfold txB infT
  rw [e1, e2, numB_4 h5 h6]; simp
set_option maxRecDepth 100000 in
set_option maxHeartbeats 1000000 in
theorem putinfo_any (g t x tr co ou sg : Value) (i : Inf) (w : World) (hg : RdB w g i.c.g) (ht : RdB w t i.c.tr) (hx : RdB w x i.c.tx) (h1 : RdB w tr i.tree) (h2 : RdB w co i.conf) (h3 : RdB w ou i.outer) (h4 : RdB w sg i.sig) : Rets Try.prog 32 [.agg [g, .int .i64 i.c.ep, t, x, tr, co, ou, .int .i64 i.signer, sg].toArray] w (fun v w' => ∃ u, v = .tuple #[u, .int .i64 (infE i)] ∧ OwnB w' w.heap.size u (infB i) ∧ Keep [] w w') := by
 have hB : Keep [] w w := Keep.refl _ _
 have htl := txB_len i
 have hvl := vecsB_len (ls := [i.sig]) (by simp)
 refine rets_of_tw Try.func32 rfl (by decide) Try.ntmps32 rfl (fun fin _ hfin => ?_)
 refine tw_seq (tw_region (ow_d (d_box (cs := [g, .int .i64 i.c.ep, t, x, tr, co, ou, .int .i64 i.signer, sg]) rfl rfl) rfl ?_))
 rintro _ w1 ⟨b1, rfl, eb1, hb1, k1, z1⟩
 have ge_b1 : w.heap.size ≤ b1 := by have := hB.size; omega
 replace hB := hB.trans k1
 clear eb1 z1
 refine ow_g (g_as rfl) rfl (ow_g (g_as rfl) rfl (ow_nil (tw_seq (tw_region ?_))))
 have ltb1 := hb1.lt
 refine ow_g (g_ldab (cs' := [_, _, _, _, _, _, _, _, _]) ag86 ty86 rfl hb1 rfl rfl) rfl ?_
 refine ow_d (d_call (vs := [_]) rfl (text_any _ _ _ _ _ _ _ i _ (by first | assumption | exact Own.rd ‹_› | exact Rd.keep0 ‹_› hB | exact Own.rd (Own.keep0 ‹_› hB)) (by first | assumption | exact Own.rd ‹_› | exact Rd.keep0 ‹_› hB | exact Own.rd (Own.keep0 ‹_› hB)) (by first | assumption | exact Own.rd ‹_› | exact Rd.keep0 ‹_› hB | exact Own.rd (Own.keep0 ‹_› hB)) (by first | assumption | exact Own.rd ‹_› | exact Rd.keep0 ‹_› hB | exact Own.rd (Own.keep0 ‹_› hB)) (by first | assumption | exact Own.rd ‹_› | exact Rd.keep0 ‹_› hB | exact Own.rd (Own.keep0 ‹_› hB)) (by first | assumption | exact Own.rd ‹_› | exact Rd.keep0 ‹_› hB | exact Own.rd (Own.keep0 ‹_› hB)) (by first | assumption | exact Own.rd ‹_› | exact Rd.keep0 ‹_› hB | exact Own.rd (Own.keep0 ‹_› hB)))) rfl ?_
 rintro _ w2 ⟨u1, rfl, o1, k2⟩
 have gl_o1 := hB.size
 have sb_b1_o1 := fun x hx => (show x ≠ b1 from by have h1 := (o1.blk x hx).1; have h2 := hb1.lt; omega)
 replace hb1 := hb1.keep0 k2
 replace hB := hB.trans k2
 have u_o1 := o1.blk
 refine ow_g (g_mv rfl) rfl (ow_g (g_ext (vs := [_, _]) rfl rfl) rfl ?_)
 refine ow_g (g_ext (vs := [_, _]) rfl rfl) rfl ?_
 refine ow_g (g_as rfl) rfl ?_
 replace o1 := o1.lo ltb1
 refine ow_g (g_as rfl) rfl (ow_nil (tw_seq (tw_seq (tw_region (ow_g (g_mv rfl) rfl (ow_g (g_not rfl) rfl ?_))))))
 refine ow_g (g_mv rfl) rfl (ow_grp 13 false rfl (fun c1 hgc1 => ?_))
 refine ow_gg [(1, _)] (grd1 rfl rfl rfl hgc1) ⟨und0 rfl, trivial⟩ (fun hw1 => g_faE 8 Try.underlying86 rfl ty23 (by decide) rfl rfl) rfl ?_
 refine ow_gg [(14, _)] (grd1 rfl rfl rfl hgc1) ⟨und1 rfl, trivial⟩ (fun hw2 => g_ldb sc23 rfl hb1 rfl) rfl ?_
 refine ow_gg [(15, _)] (grd1 rfl rfl rfl hgc1) ⟨und1 rfl, trivial⟩ (fun hw3 => g_len Try.underlying23 rfl (by first | assumption | exact Own.rd ‹_› | exact Rd.keep0 ‹_› hB | exact Own.rd (Own.keep0 ‹_› hB))) rfl ?_
 refine ow_gg [(16, _)] (grd1 rfl rfl rfl hgc1) ⟨und1 rfl, trivial⟩ (fun hw4 => g_ne rfl rfl) rfl ?_
 refine ow_g (g_por rfl rfl hgc1) rfl ?_
 refine ow_nil (tw_keep [(1, _), (4, _), (18, _)] ⟨rfl, rfl, rfl, trivial⟩ ?_)
 refine tw_cond rfl (fun hc1 => ?_) (fun hc1 => ?_)
 ·
  have hd1 := hc1
  try (simp only [Bool.and_eq_true, Bool.or_eq_true, decide_eq_true_eq, Bool.and_eq_false_iff, Bool.or_eq_false_iff, decide_eq_false_iff_not, Bool.not_eq_true', Bool.not_eq_false', Bool.not_eq_true, Bool.not_eq_false, ne_eq, Decidable.not_not, decide_true, decide_false, Bool.true_and, Bool.false_and, Bool.or_false, Bool.false_or, not_true_eq_false, false_or, or_false, true_and, and_true, not_false_eq_true, reduceCtorEq] at hd1)
  refine tw_seq (tw_region (ow_g (g_as rfl) rfl (ow_g (g_as rfl) rfl (ow_nil (tw_ret2 hfin Try.results32 rfl rfl ?_)))))
  have hok : infOk i = false := by
   rw [infOk_tx]; cases hw : txOk i <;> simp_all; omega
  exact ⟨_, by unfold infE; rw [hok]; rfl, by unfold infB; rw [hok]; exact own_nil _ _ _ _, hB⟩
 ·
  have hd2 := hc1
  try (simp only [Bool.and_eq_true, Bool.or_eq_true, decide_eq_true_eq, Bool.and_eq_false_iff, Bool.or_eq_false_iff, decide_eq_false_iff_not, Bool.not_eq_true', Bool.not_eq_false', Bool.not_eq_true, Bool.not_eq_false, ne_eq, Decidable.not_not, decide_true, decide_false, Bool.true_and, Bool.false_and, Bool.or_false, Bool.false_or, not_true_eq_false, false_or, or_false, true_and, and_true, not_false_eq_true, reduceCtorEq] at hd2)
  refine tw_skip (tw_seq (tw_region (ow_g (g_mv rfl) rfl (ow_g (g_faE 8 Try.underlying86 rfl ty23 (by decide) rfl rfl) rfl ?_))))
  refine ow_g (g_ldb sc23 rfl hb1 rfl) rfl ?_
  refine ow_d (d_bsL (m := 1) (ls := [i.sig]) (xs := [.tmp 21]) (us := [_]) Try.underlying102 ty23 rfl rfl (rdL_cons (by first | exact Rd.nil _ _ | exact (by first | assumption | exact Own.rd ‹_› | exact Rd.keep0 ‹_› hB | exact Own.rd (Own.keep0 ‹_› hB))) (rdL_nil _)) rfl rfl) rfl ?_
  rintro v1 w3 ⟨sl1, k3⟩
  replace hb1 := hb1.keep0 k3
  replace o1 := o1.keep0 k3
  replace hB := hB.trans k3
  refine ow_d (d_call (vs := [_]) rfl (gvectorsN_any _ [i.sig] _ _ ‹_› (.inr (by simp)))) rfl ?_
  rintro v2 w4 ⟨o3, k4⟩
  have gl_o3 := hB.size
  have sb_b1_o3 := fun x hx => (show x ≠ b1 from by have h1 := (o3.blk x hx).1; have h2 := hb1.lt; omega)
  replace hb1 := hb1.keep0 k4
  replace o1 := o1.keep0 k4
  replace sl1 := sl1.keep0 k4
  replace hB := hB.trans k4
  have u_o3 := o3.blk
  have lt_o4 := hb1.lt
  refine ow_d (d_appB Try.underlying23 ty5 rfl o1 rfl (show RdB _ _ _ from o3.rd) (by first | omega | (simp only [List.length_append] at *; omega)) (by omega)) rfl ?_
  rintro v3 w5 ⟨o4, k5, lb1, _⟩
  replace hB := hB.new k5 (fun x hx => .inl (Nat.le_trans ge_b1 (Nat.le_of_lt (o1.blk x hx).1)))
  replace hb1 := hb1.keep k5 (fun hm => absurd (o1.blk _ hm).1 (Nat.lt_irrefl _))
  refine ow_g (g_as rfl) rfl (ow_g (g_as rfl) rfl (ow_nil (tw_ret2 hfin Try.results32 rfl rfl ?_)))
  have hok : infOk i = true := by
   rw [infOk_tx]; cases hw : txOk i <;> simp_all; try omega
  have hh := o4
  rw [tx_app hok, ← List.length_append, tx_app hok] at hh
  have hlo : w.heap.size ≤ b1 + 1 := by omega
  exact ⟨_, by unfold infE; rw [hok]; rfl, by unfold infB; rw [hok]; exact hh.lo hlo, hB⟩
set_option maxRecDepth 100000 in
set_option maxHeartbeats 1000000 in
theorem againi_any (g t x tr co ou sg : Value) (i : Inf) (w : World) (hg : RdB w g i.c.g) (ht : RdB w t i.c.tr) (hx : RdB w x i.c.tx) (h1 : RdB w tr i.tree) (h2 : RdB w co i.conf) (h3 : RdB w ou i.outer) (h4 : RdB w sg i.sig) (v : Value) (c : List UInt8) (hv : RdB w v c) : Rets Try.prog 80 [.agg [g, .int .i64 i.c.ep, t, x, tr, co, ou, .int .i64 i.signer, sg].toArray, .func (.func 32) #[] #[], v] w (fun r w' => r = .tuple #[.agg (bif (infOk i && decide (infB i = c)) then [g, .int .i64 i.c.ep, t, x, tr, co, ou, .int .i64 i.signer, sg] else [.slice none 0 0, .int .i64 0, .slice none 0 0, .slice none 0 0, .slice none 0 0, .slice none 0 0, .slice none 0 0, .int .i64 0, .slice none 0 0]).toArray, .int .i64 (bif (infOk i && decide (infB i = c)) then 0 else 21)] ∧ Keep [] w w') := by
 have hB : Keep [] w w := Keep.refl _ _
 refine rets_of_tw Try.func80 rfl (by decide) Try.ntmps80 rfl (fun fin _ hfin => ?_)
 refine tw_seq (tw_region (ow_d (d_box (cs := [g, .int .i64 i.c.ep, t, x, tr, co, ou, .int .i64 i.signer, sg]) rfl rfl) rfl ?_))
 rintro _ w1 ⟨b1, rfl, eb1, hb1, k1, z1⟩
 have ge_b1 : w.heap.size ≤ b1 := by have := hB.size; omega
 replace hB := hB.trans k1
 clear eb1 z1
 refine ow_d (d_alloc ty86) rfl ?_
 rintro _ w2 ⟨b2, rfl, eb2, hb2, k2, z2⟩
 have ge_b2 : w.heap.size ≤ b2 := by have := hB.size; omega
 have ne_b1_b2 : b1 ≠ b2 := by have := hb1.lt; omega
 replace hb1 := hb1.keep0 k2
 replace hB := hB.trans k2
 clear eb2 z2
 refine ow_g (g_as rfl) rfl (ow_nil (tw_seq (tw_region (ow_d (d_alloc ty86) rfl ?_))))
 rintro _ w3 ⟨b3, rfl, eb3, hb3, k3, z3⟩
 have ge_b3 : w.heap.size ≤ b3 := by have := hB.size; omega
 have ne_b1_b3 : b1 ≠ b3 := by have := hb1.lt; omega
 have ne_b2_b3 : b2 ≠ b3 := by have := hb2.lt; omega
 replace hb1 := hb1.keep0 k3
 replace hb2 := hb2.keep0 k3
 replace hB := hB.trans k3
 clear eb3 z3
 refine ow_nil (tw_seq (tw_seq (tw_region (ow_g (g_mv rfl) rfl (ow_g (g_ldab (cs' := [_, _, _, _, _, _, _, _, _]) ag86 ty86 rfl hb1 rfl rfl) rfl ?_)))))
 refine ow_d (d_callv rfl rfl (putinfo_any _ _ _ _ _ _ _ i _ (by first | assumption | exact Own.rd ‹_› | exact Rd.keep0 ‹_› hB | exact Own.rd (Own.keep0 ‹_› hB)) (by first | assumption | exact Own.rd ‹_› | exact Rd.keep0 ‹_› hB | exact Own.rd (Own.keep0 ‹_› hB)) (by first | assumption | exact Own.rd ‹_› | exact Rd.keep0 ‹_› hB | exact Own.rd (Own.keep0 ‹_› hB)) (by first | assumption | exact Own.rd ‹_› | exact Rd.keep0 ‹_› hB | exact Own.rd (Own.keep0 ‹_› hB)) (by first | assumption | exact Own.rd ‹_› | exact Rd.keep0 ‹_› hB | exact Own.rd (Own.keep0 ‹_› hB)) (by first | assumption | exact Own.rd ‹_› | exact Rd.keep0 ‹_› hB | exact Own.rd (Own.keep0 ‹_› hB)) (by first | assumption | exact Own.rd ‹_› | exact Rd.keep0 ‹_› hB | exact Own.rd (Own.keep0 ‹_› hB)))) rfl ?_
 rintro _ w4 ⟨v1, rfl, o1, k4⟩
 have gl_o1 := hB.size
 have sb_b1_o1 := fun x hx => (show x ≠ b1 from by have h1 := (o1.blk x hx).1; have h2 := hb1.lt; omega)
 have sb_b2_o1 := fun x hx => (show x ≠ b2 from by have h1 := (o1.blk x hx).1; have h2 := hb2.lt; omega)
 have sb_b3_o1 := fun x hx => (show x ≠ b3 from by have h1 := (o1.blk x hx).1; have h2 := hb3.lt; omega)
 replace hb1 := hb1.keep0 k4
 replace hb2 := hb2.keep0 k4
 replace hb3 := hb3.keep0 k4
 replace hB := hB.trans k4
 have u_o1 := o1.blk
 refine ow_g (g_mv rfl) rfl (ow_g (g_ext (vs := [_, _]) rfl rfl) rfl ?_)
 refine ow_g (g_ext (vs := [_, _]) rfl rfl) rfl ?_
 refine ow_g (g_as rfl) rfl (ow_g (g_as rfl) rfl (ow_nil (tw_seq (tw_region (ow_g (g_mv rfl) rfl (ow_g (g_ne rfl rfl) rfl ?_))))))
 refine ow_g (g_mv rfl) rfl (ow_grp 19 false rfl (fun c1 hgc1 => ?_))
 refine ow_gg [(9, _)] (grd1 rfl rfl rfl hgc1) ⟨und0 rfl, trivial⟩ (fun hw1 => g_mv rfl) rfl ?_
 refine ow_gg [(2, _)] (grd1 rfl rfl rfl hgc1) ⟨und0 rfl, trivial⟩ (fun hw2 => g_mv rfl) rfl ?_
 refine ow_gds [(20, _), (21, _)] (grd1 rfl rfl rfl hgc1) ⟨und1 rfl, und1 rfl, trivial⟩ (fun hw3 => d_call (vs := [_, _]) rfl (beq_any _ _ (infB i) c _ (o1.rd) (by first | assumption | exact Own.rd ‹_› | exact Rd.keep0 ‹_› hB | exact Own.rd (Own.keep0 ‹_› hB)))) rfl ?_
 refine ow_gg [(22, _)] (grd1 rfl rfl rfl hgc1) ⟨und1 rfl, trivial⟩ (fun hw4 => g_notd rfl) rfl ?_
 refine ow_g (g_por rfl rfl hgc1) rfl ?_
 refine ow_nil (tw_keep [(3, _), (6, _), (8, _), (24, _)] ⟨rfl, rfl, rfl, rfl, trivial⟩ ?_)
 refine tw_cond rfl (fun hc1 => ?_) (fun hc1 => ?_)
 ·
  have hd1 := hc1
  try (simp only [Bool.and_eq_true, Bool.or_eq_true, decide_eq_true_eq, Bool.and_eq_false_iff, Bool.or_eq_false_iff, decide_eq_false_iff_not, Bool.not_eq_true', Bool.not_eq_false', Bool.not_eq_true, Bool.not_eq_false, ne_eq, Decidable.not_not, decide_true, decide_false, Bool.true_and, Bool.false_and, Bool.or_false, Bool.false_or, not_true_eq_false, false_or, or_false, true_and, and_true, not_false_eq_true, reduceCtorEq] at hd1)
  refine tw_seq (tw_region (ow_g (g_ldab (cs' := [_, _, _, _, _, _, _, _, _]) ag86 ty86 rfl hb3 rfl rfl) rfl ?_))
  refine ow_d0 (d_sta ty86 rfl rfl rfl (by simp only [List.forall_mem_cons]; refine ⟨rfl, rfl, rfl, rfl, rfl, rfl, rfl, rfl, rfl, fun v hv => by cases hv⟩) hb2 rfl) ?_
  rintro _ w5 ⟨hb4, k5, z4⟩
  replace hb1 := hb1.keep k5 (fun hm => absurd (List.mem_singleton.1 hm) ne_b1_b2)
  replace hb3 := hb3.keep k5 (fun hm => absurd (List.mem_singleton.1 hm) (Ne.symm ne_b2_b3))
  replace o1 := o1.keep k5 (fun x hx hm => sb_b2_o1 x hx (List.mem_singleton.1 hm))
  replace hB := hB.new k5 (fun x hx => .inl ((List.mem_singleton.1 hx) ▸ ge_b2))
  clear z4
  replace hb4 : Bk w5 b2 _ [.slice none 0 0, .int .i64 0, .slice none 0 0, .slice none 0 0, .slice none 0 0, .slice none 0 0, .slice none 0 0, .int .i64 0, .slice none 0 0] := hb4
  refine ow_g (g_as rfl) rfl (ow_nil (tw_retct hfin Try.results80 rfl (run_loadAgg ag86 ty86 ‹_› rfl) rfl ?_))
  have hok : (infOk i && decide (infB i = c)) = false := by
   unfold infE at hc1
   cases hw : infOk i <;> simp_all
  exact ⟨by rw [hok]; rfl, hB⟩
 ·
  have hd2 := hc1
  try (simp only [Bool.and_eq_true, Bool.or_eq_true, decide_eq_true_eq, Bool.and_eq_false_iff, Bool.or_eq_false_iff, decide_eq_false_iff_not, Bool.not_eq_true', Bool.not_eq_false', Bool.not_eq_true, Bool.not_eq_false, ne_eq, Decidable.not_not, decide_true, decide_false, Bool.true_and, Bool.false_and, Bool.or_false, Bool.false_or, not_true_eq_false, false_or, or_false, true_and, and_true, not_false_eq_true, reduceCtorEq] at hd2)
  refine tw_skip (tw_seq (tw_region (ow_g (g_ldab (cs' := [_, _, _, _, _, _, _, _, _]) ag86 ty86 rfl hb1 rfl rfl) rfl ?_)))
  refine ow_d0 (d_sta ty86 rfl rfl rfl (by simp only [List.forall_mem_cons]; refine ⟨(by first | rfl | exact Rd.one (by first | assumption | exact Own.rd ‹_› | exact Rd.keep0 ‹_› hB | exact Own.rd (Own.keep0 ‹_› hB))), (by first | rfl | exact Rd.one (by first | assumption | exact Own.rd ‹_› | exact Rd.keep0 ‹_› hB | exact Own.rd (Own.keep0 ‹_› hB))), (by first | rfl | exact Rd.one (by first | assumption | exact Own.rd ‹_› | exact Rd.keep0 ‹_› hB | exact Own.rd (Own.keep0 ‹_› hB))), (by first | rfl | exact Rd.one (by first | assumption | exact Own.rd ‹_› | exact Rd.keep0 ‹_› hB | exact Own.rd (Own.keep0 ‹_› hB))), (by first | rfl | exact Rd.one (by first | assumption | exact Own.rd ‹_› | exact Rd.keep0 ‹_› hB | exact Own.rd (Own.keep0 ‹_› hB))), (by first | rfl | exact Rd.one (by first | assumption | exact Own.rd ‹_› | exact Rd.keep0 ‹_› hB | exact Own.rd (Own.keep0 ‹_› hB))), (by first | rfl | exact Rd.one (by first | assumption | exact Own.rd ‹_› | exact Rd.keep0 ‹_› hB | exact Own.rd (Own.keep0 ‹_› hB))), (by first | rfl | exact Rd.one (by first | assumption | exact Own.rd ‹_› | exact Rd.keep0 ‹_› hB | exact Own.rd (Own.keep0 ‹_› hB))), (by first | rfl | exact Rd.one (by first | assumption | exact Own.rd ‹_› | exact Rd.keep0 ‹_› hB | exact Own.rd (Own.keep0 ‹_› hB))), fun v hv => by cases hv⟩) hb2 rfl) ?_
  rintro _ w6 ⟨hb5, k6, z5⟩
  replace hb1 := hb1.keep k6 (fun hm => absurd (List.mem_singleton.1 hm) ne_b1_b2)
  replace hb3 := hb3.keep k6 (fun hm => absurd (List.mem_singleton.1 hm) (Ne.symm ne_b2_b3))
  replace o1 := o1.keep k6 (fun x hx hm => sb_b2_o1 x hx (List.mem_singleton.1 hm))
  replace hB := hB.new k6 (fun x hx => .inl ((List.mem_singleton.1 hx) ▸ ge_b2))
  clear z5
  replace hb5 : Bk w6 b2 _ [g, .int .i64 i.c.ep, t, x, tr, co, ou, .int .i64 i.signer, sg] := hb5
  refine ow_g (g_as rfl) rfl (ow_nil (tw_retct hfin Try.results80 rfl (run_loadAgg ag86 ty86 ‹_› rfl) rfl ?_))
  have hok : (infOk i && decide (infB i = c)) = true := by
   unfold infE at hc1
   cases hw : infOk i <;> simp_all
  exact ⟨by rw [hok]; rfl, hB⟩
end Go.Proofs.Ytimeclfplaonkaa.W
namespace Go.Proofs.Ytimeclfplaonkaa.W
open Go Go.Eng Go.Byt
set_option linter.unusedVariables false
set_option linter.unusedSimpArgs false
set_option maxRecDepth 100000 in
set_option maxHeartbeats 1000000 in
theorem getc_any (v : Value) (b : List UInt8) (w : World) (hv : RdB w v b) (hbl : b.length ≤ 140737488351232) : Rets Try.prog 79 [v] w (fun r w' => ∃ g t x, r = .tuple #[.agg [g, .int .i64 (cgC b).ep, t, x].toArray, .int .i64 (cgE b)] ∧ OwnB w' w.heap.size g (cgC b).g ∧ OwnB w' w.heap.size t (cgC b).tr ∧ OwnB w' w.heap.size x (cgC b).tx ∧ Keep [] w w') := by
 have hB : Keep [] w w := Keep.refl _ _
 refine rets_of_tw Try.func79 rfl (by decide) Try.ntmps79 rfl (fun fin _ hfin => ?_)
 refine tw_seq (tw_region (ow_d (d_alloc ty84) rfl ?_))
 rintro _ w1 ⟨b1, rfl, eb1, hb1, k1, z1⟩
 have ge_b1 : w.heap.size ≤ b1 := by have := hB.size; omega
 replace hB := hB.trans k1
 clear eb1 z1
 refine ow_g (g_as rfl) rfl (ow_nil (tw_seq (tw_region (ow_g (g_mv rfl) rfl ?_))))
 have zb1 := hb1.lt; have hs8 := hB.size
 refine ow_d (d_call (vs := [_]) rfl (newL_any _ b _ (by first | assumption | exact Own.rd ‹_› | exact Rd.keep0 ‹_› hB | exact Own.rd (Own.keep0 ‹_› hB)) (by omega))) rfl ?_
 rintro _ w2 ⟨p1, rfl, rr, k2⟩
 replace hb1 := hb1.keep0 k2
 replace hB := hB.trans k2
 have gp1 := rr.1
 replace rr := rr.rdr
 have hR0 : b.length ≤ b.length := Nat.le_refl _
 refine ow_g (g_as rfl) rfl (ow_nil (tw_seq (tw_region (ow_g (g_mv rfl) rfl ?_))))
 have lv0 := rr.lt
 refine ow_d (d_call (vs := [_, _]) rfl (rnumber_any p1 b 0 4 _ rr (by decide))) rfl ?_
 rintro _ w3 ⟨r0, hr0, rfl, rr, km1⟩
 rw [show bitsOf 4 = 32 from by decide] at hr0
 subst hr0
 have hR1 : (rNum 32 b 0 4).2.1.length ≤ b.length := Nat.le_trans (rNum_len _ _ _ _) hR0
 have z_km1 := km1.size
 replace hb1 := hb1.keep km1 (fun hm => by have h9 := List.mem_singleton.1 hm; omega)
 replace hB := hB.new km1 (fun x hm => .inl (by have h9 := List.mem_singleton.1 hm; omega))
 refine ow_nil (tw_seq (tw_region (ow_g (g_mv rfl) rfl ?_)))
 have lv1 := rr.lt
 refine ow_d (d_call (vs := [_]) rfl (vector_any p1 ((rNum 32 b 0 4).2.1) ((rNum 32 b 0 4).2.2) _ rr (by omega))) rfl ?_
 rintro v1 w4 ⟨_, rfl, o1, rr, km2⟩
 have hR2 : (rVec ((rNum 32 b 0 4).2.1) ((rNum 32 b 0 4).2.2)).2.1.length ≤ b.length := Nat.le_trans (rVec_len _ _) hR1
 have gl_o1 := hB.size
 have sb_b1_o1 := fun x hx => (show x ≠ b1 from by have h1 := (o1.blk x hx).1; have h2 := hb1.lt; omega)
 have z_km2 := km2.size
 replace hb1 := hb1.keep km2 (fun hm => by have h9 := List.mem_singleton.1 hm; omega)
 replace hB := hB.new km2 (fun x hm => .inl (by have h9 := List.mem_singleton.1 hm; omega))
 refine ow_g (g_mv rfl) rfl ?_
 have lv2 := rr.lt
 refine ow_d (d_call (vs := [_, _]) rfl (rnumber_any p1 ((rVec ((rNum 32 b 0 4).2.1) ((rNum 32 b 0 4).2.2)).2.1) ((rVec ((rNum 32 b 0 4).2.1) ((rNum 32 b 0 4).2.2)).2.2) 8 _ rr (by decide))) rfl ?_
 rintro _ w5 ⟨r2, hr2, rfl, rr, km3⟩
 rw [show bitsOf 8 = 62 from by decide] at hr2
 subst hr2
 have hR3 : (rNum 62 ((rVec ((rNum 32 b 0 4).2.1) ((rNum 32 b 0 4).2.2)).2.1) ((rVec ((rNum 32 b 0 4).2.1) ((rNum 32 b 0 4).2.2)).2.2) 8).2.1.length ≤ b.length := Nat.le_trans (rNum_len _ _ _ _) hR2
 have z_km3 := km3.size
 replace hb1 := hb1.keep km3 (fun hm => by have h9 := List.mem_singleton.1 hm; omega)
 replace o1 := o1.keep km3 (fun x hx hm => by have h9 := List.mem_singleton.1 hm; have h8 := (o1.blk x hx).1; omega)
 replace hB := hB.new km3 (fun x hm => .inl (by have h9 := List.mem_singleton.1 hm; omega))
 refine ow_g (g_mv rfl) rfl ?_
 have lv3 := rr.lt
 refine ow_d (d_call (vs := [_]) rfl (vector_any p1 ((rNum 62 ((rVec ((rNum 32 b 0 4).2.1) ((rNum 32 b 0 4).2.2)).2.1) ((rVec ((rNum 32 b 0 4).2.1) ((rNum 32 b 0 4).2.2)).2.2) 8).2.1) ((rNum 62 ((rVec ((rNum 32 b 0 4).2.1) ((rNum 32 b 0 4).2.2)).2.1) ((rVec ((rNum 32 b 0 4).2.1) ((rNum 32 b 0 4).2.2)).2.2) 8).2.2) _ rr (by omega))) rfl ?_
 rintro v2 w6 ⟨_, rfl, o2, rr, km4⟩
 have hR4 : (rVec ((rNum 62 ((rVec ((rNum 32 b 0 4).2.1) ((rNum 32 b 0 4).2.2)).2.1) ((rVec ((rNum 32 b 0 4).2.1) ((rNum 32 b 0 4).2.2)).2.2) 8).2.1) ((rNum 62 ((rVec ((rNum 32 b 0 4).2.1) ((rNum 32 b 0 4).2.2)).2.1) ((rVec ((rNum 32 b 0 4).2.1) ((rNum 32 b 0 4).2.2)).2.2) 8).2.2)).2.1.length ≤ b.length := Nat.le_trans (rVec_len _ _) hR3
 have gl_o2 := hB.size
 have sb_b1_o2 := fun x hx => (show x ≠ b1 from by have h1 := (o2.blk x hx).1; have h2 := hb1.lt; omega)
 have z_km4 := km4.size
 replace hb1 := hb1.keep km4 (fun hm => by have h9 := List.mem_singleton.1 hm; omega)
 replace o1 := o1.keep km4 (fun x hx hm => by have h9 := List.mem_singleton.1 hm; have h8 := (o1.blk x hx).1; omega)
 replace hB := hB.new km4 (fun x hm => .inl (by have h9 := List.mem_singleton.1 hm; omega))
 refine ow_g (g_mv rfl) rfl ?_
 have lv4 := rr.lt
 refine ow_d (d_call (vs := [_]) rfl (vector_any p1 ((rVec ((rNum 62 ((rVec ((rNum 32 b 0 4).2.1) ((rNum 32 b 0 4).2.2)).2.1) ((rVec ((rNum 32 b 0 4).2.1) ((rNum 32 b 0 4).2.2)).2.2) 8).2.1) ((rNum 62 ((rVec ((rNum 32 b 0 4).2.1) ((rNum 32 b 0 4).2.2)).2.1) ((rVec ((rNum 32 b 0 4).2.1) ((rNum 32 b 0 4).2.2)).2.2) 8).2.2)).2.1) ((rVec ((rNum 62 ((rVec ((rNum 32 b 0 4).2.1) ((rNum 32 b 0 4).2.2)).2.1) ((rVec ((rNum 32 b 0 4).2.1) ((rNum 32 b 0 4).2.2)).2.2) 8).2.1) ((rNum 62 ((rVec ((rNum 32 b 0 4).2.1) ((rNum 32 b 0 4).2.2)).2.1) ((rVec ((rNum 32 b 0 4).2.1) ((rNum 32 b 0 4).2.2)).2.2) 8).2.2)).2.2) _ rr (by omega))) rfl ?_
 rintro v3 w7 ⟨_, rfl, o3, rr, km5⟩
 have hR5 : (rVec ((rVec ((rNum 62 ((rVec ((rNum 32 b 0 4).2.1) ((rNum 32 b 0 4).2.2)).2.1) ((rVec ((rNum 32 b 0 4).2.1) ((rNum 32 b 0 4).2.2)).2.2) 8).2.1) ((rNum 62 ((rVec ((rNum 32 b 0 4).2.1) ((rNum 32 b 0 4).2.2)).2.1) ((rVec ((rNum 32 b 0 4).2.1) ((rNum 32 b 0 4).2.2)).2.2) 8).2.2)).2.1) ((rVec ((rNum 62 ((rVec ((rNum 32 b 0 4).2.1) ((rNum 32 b 0 4).2.2)).2.1) ((rVec ((rNum 32 b 0 4).2.1) ((rNum 32 b 0 4).2.2)).2.2) 8).2.1) ((rNum 62 ((rVec ((rNum 32 b 0 4).2.1) ((rNum 32 b 0 4).2.2)).2.1) ((rVec ((rNum 32 b 0 4).2.1) ((rNum 32 b 0 4).2.2)).2.2) 8).2.2)).2.2)).2.1.length ≤ b.length := Nat.le_trans (rVec_len _ _) hR4
 have gl_o3 := hB.size
 have sb_b1_o3 := fun x hx => (show x ≠ b1 from by have h1 := (o3.blk x hx).1; have h2 := hb1.lt; omega)
 have z_km5 := km5.size
 replace hb1 := hb1.keep km5 (fun hm => by have h9 := List.mem_singleton.1 hm; omega)
 replace o1 := o1.keep km5 (fun x hx hm => by have h9 := List.mem_singleton.1 hm; have h8 := (o1.blk x hx).1; omega)
 replace o2 := o2.keep km5 (fun x hx hm => by have h9 := List.mem_singleton.1 hm; have h8 := (o2.blk x hx).1; omega)
 replace hB := hB.new km5 (fun x hm => .inl (by have h9 := List.mem_singleton.1 hm; omega))
 refine ow_g (g_bld (idx := [0, 1, 2, 3]) (xs := [.tmp 13, .tmp 15, .tmp 17, .tmp 19]) (vs := [_, _, _, _]) (css := [[_], [_], [_], [_]]) (out := [_, _, _, _]) pl84 ty84 rfl rfl ⟨Rd.cells (by first | assumption | exact Own.rd ‹_› | exact Rd.keep0 ‹_› hB | exact Own.rd (Own.keep0 ‹_› hB)), rfl, Rd.cells (by first | assumption | exact Own.rd ‹_› | exact Rd.keep0 ‹_› hB | exact Own.rd (Own.keep0 ‹_› hB)), Rd.cells (by first | assumption | exact Own.rd ‹_› | exact Rd.keep0 ‹_› hB | exact Own.rd (Own.keep0 ‹_› hB)), trivial⟩ rfl rfl) rfl ?_
 refine ow_d (d_alloc ty84) rfl ?_
 rintro _ w8 ⟨b2, rfl, eb2, hb2, k3, z2⟩
 have ge_b2 : w.heap.size ≤ b2 := by have := hB.size; omega
 have ne_b1_b2 : b1 ≠ b2 := by have := hb1.lt; omega
 have sb_b2_o1 := fun x hx => (show x ≠ b2 from by have := (o1.blk x hx).2; omega)
 have sb_b2_o2 := fun x hx => (show x ≠ b2 from by have := (o2.blk x hx).2; omega)
 have sb_b2_o3 := fun x hx => (show x ≠ b2 from by have := (o3.blk x hx).2; omega)
 replace hb1 := hb1.keep0 k3
 replace o1 := o1.keep0 k3
 replace o2 := o2.keep0 k3
 replace o3 := o3.keep0 k3
 replace hB := hB.trans k3
 clear eb2 z2
 refine ow_d0 (d_sta ty84 rfl rfl rfl (by simp only [List.forall_mem_cons]; refine ⟨(by first | rfl | exact Rd.one (by first | assumption | exact Own.rd ‹_› | exact Rd.keep0 ‹_› hB | exact Own.rd (Own.keep0 ‹_› hB))), (by first | rfl | exact Rd.one (by first | assumption | exact Own.rd ‹_› | exact Rd.keep0 ‹_› hB | exact Own.rd (Own.keep0 ‹_› hB))), (by first | rfl | exact Rd.one (by first | assumption | exact Own.rd ‹_› | exact Rd.keep0 ‹_› hB | exact Own.rd (Own.keep0 ‹_› hB))), (by first | rfl | exact Rd.one (by first | assumption | exact Own.rd ‹_› | exact Rd.keep0 ‹_› hB | exact Own.rd (Own.keep0 ‹_› hB))), fun v hv => by cases hv⟩) hb2 rfl) ?_
 rintro _ w9 ⟨hb3, k4, z3⟩
 replace hb1 := hb1.keep k4 (fun hm => absurd (List.mem_singleton.1 hm) ne_b1_b2)
 replace o1 := o1.keep k4 (fun x hx hm => sb_b2_o1 x hx (List.mem_singleton.1 hm))
 replace o2 := o2.keep k4 (fun x hx hm => sb_b2_o2 x hx (List.mem_singleton.1 hm))
 replace o3 := o3.keep k4 (fun x hx hm => sb_b2_o3 x hx (List.mem_singleton.1 hm))
 replace hB := hB.new k4 (fun x hx => .inl ((List.mem_singleton.1 hx) ▸ ge_b2))
 clear z3
 replace hb3 : Bk w9 b2 _ [v1, .int .i64 (rNum 62 ((rVec ((rNum 32 b 0 4).2.1) ((rNum 32 b 0 4).2.2)).2.1) ((rVec ((rNum 32 b 0 4).2.1) ((rNum 32 b 0 4).2.2)).2.2) 8).1, v2, v3] := hb3
 refine ow_nil (tw_keep [(0, _), (2, _), (5, _)] ⟨rfl, rfl, rfl, trivial⟩ ?_)
 refine tw_seq (tw_region (ow_g (g_ldab (cs' := [_, _, _, _]) ag84 ty84 rfl hb3 rfl rfl) rfl ?_))
 refine ow_d (d_call (vs := [_]) rfl (putc_any v1 v2 v3 _ (ctxR b).2.1 _ o1.rd o2.rd o3.rd rfl)) rfl ?_
 rintro _ w10 ⟨v4, rfl, o4, k5⟩
 have gl_o4 := hB.size
 have sb_b1_o4 := fun x hx => (show x ≠ b1 from by have h1 := (o4.blk x hx).1; have h2 := hb1.lt; omega)
 have sb_b2_o4 := fun x hx => (show x ≠ b2 from by have h1 := (o4.blk x hx).1; have h2 := hb3.lt; omega)
 replace hb1 := hb1.keep0 k5
 replace o1 := o1.keep0 k5
 replace o2 := o2.keep0 k5
 replace o3 := o3.keep0 k5
 replace hb3 := hb3.keep0 k5
 replace hB := hB.trans k5
 have u_o4 := o4.blk
 refine ow_g (g_mv rfl) rfl (ow_g (g_ext (vs := [_, _]) rfl rfl) rfl ?_)
 refine ow_g (g_ext (vs := [_, _]) rfl rfl) rfl ?_
 refine ow_g (g_as rfl) rfl (ow_g (g_as rfl) rfl (ow_nil (tw_seq (tw_seq (tw_region (ow_g (g_mv rfl) rfl ?_))))))
 refine ow_g (g_ne rfl rfl) rfl ?_
 refine ow_g (g_mv rfl) rfl (ow_grp 28 false rfl (fun c1 hgc1 => ?_))
 refine ow_gg [(6, _)] (grd1 rfl rfl rfl hgc1) ⟨und0 rfl, trivial⟩ (fun hw1 => g_mv rfl) rfl ?_
 refine ow_gg [(0, _)] (grd1 rfl rfl rfl hgc1) ⟨und0 rfl, trivial⟩ (fun hw2 => g_mv rfl) rfl ?_
 refine ow_gds [(29, _), (30, _)] (grd1 rfl rfl rfl hgc1) ⟨und1 rfl, und1 rfl, trivial⟩ (fun hw3 => d_call (vs := [_, _]) rfl (beq_any _ _ (bif ctxOk (ctxR b).2.1 then ctxT (ctxR b).2.1 else []) b _ o4.rd (by first | assumption | exact Own.rd ‹_› | exact Rd.keep0 ‹_› hB | exact Own.rd (Own.keep0 ‹_› hB)))) rfl ?_
 refine ow_gg [(31, _)] (grd1 rfl rfl rfl hgc1) ⟨und1 rfl, trivial⟩ (fun hw4 => g_notd rfl) rfl ?_
 refine ow_g (g_por rfl rfl hgc1) rfl ?_
 refine ow_nil (tw_keep [(2, _), (5, _), (33, _)] ⟨rfl, rfl, rfl, trivial⟩ ?_)
 refine tw_cond rfl (fun hc1 => ?_) (fun hc1 => ?_)
 ·
  have hd1 := hc1
  try (simp only [Bool.and_eq_true, Bool.or_eq_true, decide_eq_true_eq, Bool.and_eq_false_iff, Bool.or_eq_false_iff, decide_eq_false_iff_not, Bool.not_eq_true', Bool.not_eq_false', Bool.not_eq_true, Bool.not_eq_false, ne_eq, Decidable.not_not, decide_true, decide_false, Bool.true_and, Bool.false_and, Bool.or_false, Bool.false_or, not_true_eq_false, false_or, or_false, true_and, and_true, not_false_eq_true, reduceCtorEq] at hd1)
  refine tw_seq (tw_region (ow_g (g_bld (idx := []) (xs := []) (vs := []) (css := []) (out := [_, _, _, _]) pl84 ty84 rfl rfl trivial rfl rfl) rfl ?_))
  refine ow_d0 (d_sta ty84 rfl rfl rfl (by simp only [List.forall_mem_cons]; refine ⟨rfl, rfl, rfl, rfl, fun v hv => by cases hv⟩) hb1 rfl) ?_
  rintro _ w11 ⟨hb4, k6, z4⟩
  replace o1 := o1.keep k6 (fun x hx hm => sb_b1_o1 x hx (List.mem_singleton.1 hm))
  replace o2 := o2.keep k6 (fun x hx hm => sb_b1_o2 x hx (List.mem_singleton.1 hm))
  replace o3 := o3.keep k6 (fun x hx hm => sb_b1_o3 x hx (List.mem_singleton.1 hm))
  replace hb3 := hb3.keep k6 (fun hm => absurd (List.mem_singleton.1 hm) (Ne.symm ne_b1_b2))
  replace o4 := o4.keep k6 (fun x hx hm => sb_b1_o4 x hx (List.mem_singleton.1 hm))
  replace hB := hB.new k6 (fun x hx => .inl ((List.mem_singleton.1 hx) ▸ ge_b1))
  clear z4
  replace hb4 : Bk w11 b1 _ [.slice none 0 0, .int .i64 0, .slice none 0 0, .slice none 0 0] := hb4
  refine ow_g (g_as rfl) rfl (ow_nil (tw_retct hfin Try.results79 rfl (run_loadAgg ag84 ty84 ‹_› rfl) rfl ?_))
  have hg : cgOk b = false := by
   unfold cgOk; cases hw : ctxOk (ctxR b).2.1 <;> simp_all
  exact ⟨_, _, _, by unfold cgE cgC; rw [hg]; rfl, by unfold cgC; rw [hg]; exact own_nil _ _ _ _, by unfold cgC; rw [hg]; exact own_nil _ _ _ _, by unfold cgC; rw [hg]; exact own_nil _ _ _ _, hB⟩
 ·
  have hd2 := hc1
  try (simp only [Bool.and_eq_true, Bool.or_eq_true, decide_eq_true_eq, Bool.and_eq_false_iff, Bool.or_eq_false_iff, decide_eq_false_iff_not, Bool.not_eq_true', Bool.not_eq_false', Bool.not_eq_true, Bool.not_eq_false, ne_eq, Decidable.not_not, decide_true, decide_false, Bool.true_and, Bool.false_and, Bool.or_false, Bool.false_or, not_true_eq_false, false_or, or_false, true_and, and_true, not_false_eq_true, reduceCtorEq] at hd2)
  refine tw_skip (tw_seq (tw_region (ow_g (g_ldab (cs' := [_, _, _, _]) ag84 ty84 rfl hb3 rfl rfl) rfl ?_)))
  refine ow_d0 (d_sta ty84 rfl rfl rfl (by simp only [List.forall_mem_cons]; refine ⟨(by first | rfl | exact Rd.one (by first | assumption | exact Own.rd ‹_› | exact Rd.keep0 ‹_› hB | exact Own.rd (Own.keep0 ‹_› hB))), (by first | rfl | exact Rd.one (by first | assumption | exact Own.rd ‹_› | exact Rd.keep0 ‹_› hB | exact Own.rd (Own.keep0 ‹_› hB))), (by first | rfl | exact Rd.one (by first | assumption | exact Own.rd ‹_› | exact Rd.keep0 ‹_› hB | exact Own.rd (Own.keep0 ‹_› hB))), (by first | rfl | exact Rd.one (by first | assumption | exact Own.rd ‹_› | exact Rd.keep0 ‹_› hB | exact Own.rd (Own.keep0 ‹_› hB))), fun v hv => by cases hv⟩) hb1 rfl) ?_
  rintro _ w12 ⟨hb5, k7, z5⟩
  replace o1 := o1.keep k7 (fun x hx hm => sb_b1_o1 x hx (List.mem_singleton.1 hm))
  replace o2 := o2.keep k7 (fun x hx hm => sb_b1_o2 x hx (List.mem_singleton.1 hm))
  replace o3 := o3.keep k7 (fun x hx hm => sb_b1_o3 x hx (List.mem_singleton.1 hm))
  replace hb3 := hb3.keep k7 (fun hm => absurd (List.mem_singleton.1 hm) (Ne.symm ne_b1_b2))
  replace o4 := o4.keep k7 (fun x hx hm => sb_b1_o4 x hx (List.mem_singleton.1 hm))
  replace hB := hB.new k7 (fun x hx => .inl ((List.mem_singleton.1 hx) ▸ ge_b1))
  clear z5
  replace hb5 : Bk w12 b1 _ [v1, .int .i64 (rNum 62 ((rVec ((rNum 32 b 0 4).2.1) ((rNum 32 b 0 4).2.2)).2.1) ((rVec ((rNum 32 b 0 4).2.1) ((rNum 32 b 0 4).2.2)).2.2) 8).1, v2, v3] := hb5
  refine ow_g (g_as rfl) rfl (ow_nil (tw_retct hfin Try.results79 rfl (run_loadAgg ag84 ty84 ‹_› rfl) rfl ?_))
  have hg : cgOk b = true := by
   unfold cgOk; cases hw : ctxOk (ctxR b).2.1 <;> simp_all
  exact ⟨_, _, _, by unfold cgE cgC; rw [hg]; rfl, by unfold cgC; rw [hg]; exact o1.lo gl_o1, by unfold cgC; rw [hg]; exact o2.lo gl_o2, by unfold cgC; rw [hg]; exact o3.lo gl_o3, hB⟩
end Go.Proofs.Ytimeclfplaonkaa.W
namespace Go.Proofs.Ytimeclfplaonkaa.W
open Go Go.Eng Go.Byt
set_option linter.unusedVariables false
set_option linter.unusedSimpArgs false
def infZ : Inf := ⟨ctxZ, [], [], [], 0, []⟩
def igI (b : List UInt8) : Inf := bif igOk b then (infR b).1 else infZ
def igE (b : List UInt8) : Int := bif igOk b then 0 else 21
theorem igOk_B (b : List UInt8) : (infOk (infR b).1 && decide (infB (infR b).1 = b)) = igOk b := by
  unfold igOk infB; generalize infR b = R; cases infOk R.1 <;> rfl
theorem cblk_inf (g t x tr co ou sg : Value) (a b e : Int) : cblk (.tuple #[.agg [g, .int .i64 a, t, x, tr, co, ou, .int .i64 b, sg].toArray, .int .i64 e]) = vblk g ++ (vblk t ++ (vblk x ++ (vblk tr ++ (vblk co ++ (vblk ou ++ vblk sg))))) := by
  simp [cblk, Value.cells, vblk]
theorem againi_k (g t x tr co ou sg : Value) (i : Inf) (w : World) (hg : RdB w g i.c.g) (ht : RdB w t i.c.tr) (hx : RdB w x i.c.tx) (h1 : RdB w tr i.tree) (h2 : RdB w co i.conf) (h3 : RdB w ou i.outer) (h4 : RdB w sg i.sig) (v : Value) (c : List UInt8) (hv : RdB w v c) (hlt : ∀ y, y ∈ vblk g ++ (vblk t ++ (vblk x ++ (vblk tr ++ (vblk co ++ (vblk ou ++ vblk sg))))) → y < w.heap.size) : Rets Try.prog 80 [.agg [g, .int .i64 i.c.ep, t, x, tr, co, ou, .int .i64 i.signer, sg].toArray, .func (.func 32) #[] #[], v] w (fun r w' => ∃ gq tq xq trq coq ouq sgq, r = .tuple #[.agg [gq, .int .i64 (bif (infOk i && decide (infB i = c)) then i else infZ).c.ep, tq, xq, trq, coq, ouq, .int .i64 (bif (infOk i && decide (infB i = c)) then i else infZ).signer, sgq].toArray, .int .i64 (bif (infOk i && decide (infB i = c)) then 0 else 21)] ∧ (gq.oneCell' = true ∧ tq.oneCell' = true ∧ xq.oneCell' = true ∧ trq.oneCell' = true ∧ coq.oneCell' = true ∧ ouq.oneCell' = true ∧ sgq.oneCell' = true) ∧ ((infOk i && decide (infB i = c)) = true ∧ gq = g ∧ tq = t ∧ xq = x ∧ trq = tr ∧ coq = co ∧ ouq = ou ∧ sgq = sg ∨ (infOk i && decide (infB i = c)) = false ∧ gq = .slice none 0 0 ∧ tq = .slice none 0 0 ∧ xq = .slice none 0 0 ∧ trq = .slice none 0 0 ∧ coq = .slice none 0 0 ∧ ouq = .slice none 0 0 ∧ sgq = .slice none 0 0) ∧ (∀ y, y ∈ cblk r → y < w'.heap.size) ∧ Keep [] w w') := by
  refine (againi_any g t x tr co ou sg i w hg ht hx h1 h2 h3 h4 v c hv).mono fun r w' ⟨h, k⟩ => ?_
  cases hOK : (infOk i && decide (infB i = c))
  · rw [hOK] at h; exact ⟨_, _, _, _, _, _, _, h, ⟨rfl, rfl, rfl, rfl, rfl, rfl, rfl⟩, .inr ⟨rfl, rfl, rfl, rfl, rfl, rfl, rfl, rfl⟩, (by rw [h]; intro y hy; simp [cblk, Value.cells, vblk] at hy), k⟩
  · rw [hOK] at h; exact ⟨_, _, _, _, _, _, _, h, ⟨hg.one, ht.one, hx.one, h1.one, h2.one, h3.one, h4.one⟩, .inl ⟨rfl, rfl, rfl, rfl, rfl, rfl, rfl, rfl⟩, (by rw [h]; intro y hy; rw [cond_true, cblk_inf] at hy; exact Nat.lt_of_lt_of_le (hlt y hy) k.size), k⟩
theorem rnum4_any (p : Nat) (rest : List UInt8) (e : Int) (w : World) (h : Rdr w p rest e) : Rets Try.prog 62 [.pointer (some ⟨p, 0, none⟩), .int .i64 4] w (fun v w' => v = .int .i64 (rNum 32 rest e 4).1 ∧ Rdr w' p (rNum 32 rest e 4).2.1 (rNum 32 rest e 4).2.2 ∧ Keep [p] w w') := by
  refine (rnumber_any p rest e 4 w h (by decide)).mono ?_
  rintro v w' ⟨r, hr, h1, h2, h3⟩
  rw [show bitsOf 4 = 32 from by decide] at hr; subst hr; exact ⟨h1, h2, h3⟩
set_option maxRecDepth 100000 in
set_option maxHeartbeats 1000000 in
theorem getinfo_any (v : Value) (b : List UInt8) (w : World) (hv : RdB w v b) (hbl : b.length ≤ 140737488351232) : Rets Try.prog 34 [v] w (fun r w' => ∃ g t x tr co ou sg, r = .tuple #[.agg [g, .int .i64 (igI b).c.ep, t, x, tr, co, ou, .int .i64 (igI b).signer, sg].toArray, .int .i64 (igE b)] ∧ RdB w' g (igI b).c.g ∧ RdB w' t (igI b).c.tr ∧ RdB w' x (igI b).c.tx ∧ RdB w' tr (igI b).tree ∧ RdB w' co (igI b).conf ∧ RdB w' ou (igI b).outer ∧ RdB w' sg (igI b).sig ∧ Keep [] w w') := by
  have hB : Keep [] w w := Keep.refl _ _
  refine rets_of_tw Try.func34 rfl (by decide) Try.ntmps34 rfl (fun fin _ hfin => ?_)
  refine tw_seq ?_
  refine tw_region ?_
  refine ow_d (d_alloc ty86) rfl ?_
  rintro _ w1 ⟨b1, rfl, eb1, hb1, k1, z1⟩
  have ge_b1 : w.heap.size ≤ b1 := by have := hB.size; omega
  replace hB := hB.trans k1
  clear eb1 z1
  refine ow_g (g_as rfl) rfl ?_
  refine ow_nil ?_
  refine tw_seq ?_
  refine tw_region ?_
  refine ow_g (g_mv rfl) rfl ?_
  have zb1 := hb1.lt; have hs8 := hB.size
  refine ow_d (d_call (vs := [_]) rfl (newL_any _ b _ (by first | assumption | exact Own.rd (by assumption) | exact Rd.keep0 (by assumption) hB | exact Own.rd (Own.keep0 (by assumption) hB)) (by omega))) rfl ?_
  rintro _ w2 ⟨p1, rfl, rr, k2⟩
  replace hb1 := hb1.keep0 k2
  replace hB := hB.trans k2
  have gp1 := rr.1
  replace rr := rr.rdr
  have hR0 : b.length ≤ b.length := Nat.le_refl _
  refine ow_g (g_as rfl) rfl ?_
  refine ow_nil ?_
  refine tw_seq ?_
  refine tw_region ?_
  refine ow_g (g_mv rfl) rfl ?_
  have lv0 := rr.lt
  refine ow_d (d_call (vs := [_]) rfl (vector_any _ b 0 _ rr (by omega))) rfl ?_
  rintro jw w3 ⟨_, rfl, oj, rr, km1⟩
  have z_km1 := km1.size
  replace hb1 := hb1.keep km1 (fun hm => by have h9 := List.mem_singleton.1 hm; omega)
  replace hB := hB.new km1 (fun x hm => .inl (by have h9 := List.mem_singleton.1 hm; omega))
  have hR1 : (rVec b 0).2.1.length ≤ b.length := rVec_len b 0; have hq0 := rVec_out b 0
  have lv1 := rr.lt
  refine ow_d (d_call (vs := [_]) rfl (getc_any _ (rVec b 0).1 _ oj.rd (by omega))) rfl ?_
  rintro _ w4 ⟨gv, tv, xv, rfl, oa, ob, oc, k3⟩
  have gl_oa := hB.size
  have sb_b1_oa := fun x hx => (show x ≠ b1 from by have h1 := (oa.blk x hx).1; have h2 := hb1.lt; omega)
  have gl_ob := hB.size
  have sb_b1_ob := fun x hx => (show x ≠ b1 from by have h1 := (ob.blk x hx).1; have h2 := hb1.lt; omega)
  have gl_oc := hB.size
  have sb_b1_oc := fun x hx => (show x ≠ b1 from by have h1 := (oc.blk x hx).1; have h2 := hb1.lt; omega)
  replace hb1 := hb1.keep0 k3
  replace rr := rr.keep0 k3
  replace hB := hB.trans k3
  have u_oa := oa.blk
  have u_ob := ob.blk
  have u_oc := oc.blk
  refine ow_g (g_mv rfl) rfl ?_
  refine ow_g (g_ext (vs := [_, _]) rfl rfl) rfl ?_
  refine ow_g (g_ext (vs := [_, _]) rfl rfl) rfl ?_
  have lt5 := rr.lt
  refine ow_d (d_alloc ty84) rfl ?_
  rintro _ w5 ⟨b2, rfl, eb2, hb2, k4, z2⟩
  have zp2 : p1 < b2 := by omega
  have ge_b2 : w.heap.size ≤ b2 := by have := hB.size; omega
  have ne_b1_b2 : b1 ≠ b2 := by have := hb1.lt; omega
  have sb_b2_oa := fun x hx => (show x ≠ b2 from by have := (oa.blk x hx).2; omega)
  have sb_b2_ob := fun x hx => (show x ≠ b2 from by have := (ob.blk x hx).2; omega)
  have sb_b2_oc := fun x hx => (show x ≠ b2 from by have := (oc.blk x hx).2; omega)
  replace hb1 := hb1.keep0 k4
  replace rr := rr.keep0 k4
  replace oa := oa.keep0 k4
  replace ob := ob.keep0 k4
  replace oc := oc.keep0 k4
  replace hB := hB.trans k4
  clear eb2 z2
  refine ow_d0 (d_sta ty84 rfl rfl rfl (by simp only [List.forall_mem_cons]; refine ⟨(by first | rfl | exact Rd.one (by first | assumption | exact Own.rd (by assumption) | exact Rd.keep0 (by assumption) hB | exact Own.rd (Own.keep0 (by assumption) hB))), (by first | rfl | exact Rd.one (by first | assumption | exact Own.rd (by assumption) | exact Rd.keep0 (by assumption) hB | exact Own.rd (Own.keep0 (by assumption) hB))), (by first | rfl | exact Rd.one (by first | assumption | exact Own.rd (by assumption) | exact Rd.keep0 (by assumption) hB | exact Own.rd (Own.keep0 (by assumption) hB))), (by first | rfl | exact Rd.one (by first | assumption | exact Own.rd (by assumption) | exact Rd.keep0 (by assumption) hB | exact Own.rd (Own.keep0 (by assumption) hB))), fun v hv => by cases hv⟩) hb2 rfl) ?_
  rintro _ w6 ⟨hb3, k5, z3⟩
  replace hb1 := hb1.keep k5 (fun hm => absurd (List.mem_singleton.1 hm) ne_b1_b2)
  replace rr := rr.keep k5 (fun x hx hm => (fun x (hx : x ≤ p1) => (show x ≠ b2 from by omega)) x hx (List.mem_singleton.1 hm))
  replace oa := oa.keep k5 (fun x hx hm => sb_b2_oa x hx (List.mem_singleton.1 hm))
  replace ob := ob.keep k5 (fun x hx hm => sb_b2_ob x hx (List.mem_singleton.1 hm))
  replace oc := oc.keep k5 (fun x hx hm => sb_b2_oc x hx (List.mem_singleton.1 hm))
  replace hB := hB.new k5 (fun x hx => .inl ((List.mem_singleton.1 hx) ▸ ge_b2))
  clear z3
  replace hb3 : Bk w6 b2 _ [gv, .int .i64 (cgC (rVec b 0).1).ep, tv, xv] := hb3
  refine ow_g (g_as rfl) rfl ?_
  refine ow_nil ?_
  refine tw_keep [(0, _), (2, _), (4, _), (5, _)] ⟨rfl, rfl, rfl, rfl, trivial⟩ ?_
  refine tw_seq ?_
  refine tw_planA 16 [0, 1, 3, 5, 7, 9, 12, 2, 4, 6, 8, 10, 11, 13, 14, 15] [2, 4, 6, 8, 10, 13] [p1] [] mixed [(5, _), (4, _), (0, _), (2, _)] ⟨rfl, rfl, rfl, rfl, trivial⟩ (by decide +kernel) (by decide) (by decide) ?_ (fun x hx => by have h9 := List.mem_singleton.1 hx; have := rr.lt; omega) rfl (fun w7 k6 => ?_)
  · intro q hq; cases hq
  replace hb1 := hb1.keep0 k6
  replace rr := rr.keep0 k6
  replace oa := oa.keep0 k6
  replace ob := ob.keep0 k6
  replace oc := oc.keep0 k6
  replace hb3 := hb3.keep0 k6
  replace hB := hB.trans k6
  have lv2 := rr.lt; have lq1 := hb1.lt; have lq2 := hb3.lt
  refine pa_g [(5, _)] rfl rfl ⟨rfl, trivial⟩ rfl (fun W' kk => g_ldab (cs' := [_, _, _, _]) ag84 ty84 rfl (Bk.keep hb3 kk (by simp only [List.mem_cons, List.not_mem_nil, or_false]; first | assumption | (apply Ne.symm; assumption) | omega)) rfl rfl) ?_
  refine pa_g [(4, _)] rfl rfl ⟨rfl, trivial⟩ rfl (fun W' kk => g_mv rfl) ?_
  refine pa_g [(4, _)] rfl rfl ⟨rfl, trivial⟩ rfl (fun W' kk => g_mv rfl) ?_
  refine pa_g [(4, _)] rfl rfl ⟨rfl, trivial⟩ rfl (fun W' kk => g_mv rfl) ?_
  refine pa_g [(4, _)] rfl rfl ⟨rfl, trivial⟩ rfl (fun W' kk => g_mv rfl) ?_
  refine pa_g [(4, _)] rfl rfl ⟨rfl, trivial⟩ rfl (fun W' kk => g_mv rfl) ?_
  refine pa_g [(0, _)] rfl rfl ⟨rfl, trivial⟩ rfl (fun W' kk => g_mv rfl) ?_
  refine pa_d [(16, _)] rfl rfl ⟨rfl, trivial⟩ rfl (fun w9 k7 => ?_)
  replace hb1 := hb1.keep0 k7
  replace rr := rr.keep0 k7
  replace oa := oa.keep0 k7
  replace ob := ob.keep0 k7
  replace oc := oc.keep0 k7
  replace hb3 := hb3.keep0 k7
  replace hB := hB.trans k7
  refine (d_call (vs := [_]) rfl (vector_any _ ((rVec b 0).2.1) ((rVec b 0).2.2) _ rr (by omega))).mono ?_
  rintro v1 w8 ⟨_, rfl, o1, R1, km2⟩
  refine ⟨km2, (fun x hx => ⟨.inr (o1.blk x (o1.rd.cblk ▸ hx)).1, (o1.blk x (o1.rd.cblk ▸ hx)).2⟩), ?_⟩
  have zk6 := k6.size
  have zk7 := k7.size
  have z_km2 := km2.size
  replace hb1 := hb1.keep km2 (fun hm => by have h9 := List.mem_singleton.1 hm; omega)
  replace oa := oa.keep km2 (fun x hx hm => by have h9 := List.mem_singleton.1 hm; have h8 := (oa.blk x hx).1; omega)
  replace ob := ob.keep km2 (fun x hx hm => by have h9 := List.mem_singleton.1 hm; have h8 := (ob.blk x hx).1; omega)
  replace oc := oc.keep km2 (fun x hx hm => by have h9 := List.mem_singleton.1 hm; have h8 := (oc.blk x hx).1; omega)
  replace hb3 := hb3.keep km2 (fun hm => by have h9 := List.mem_singleton.1 hm; omega)
  replace hB := hB.new km2 (fun x hm => .inl (by have h9 := List.mem_singleton.1 hm; omega))
  replace rr := R1
  have lv_km2 := rr.lt
  have gl_o1 := hB.size
  have sb_b1_o1 := fun x hx => (show x ≠ b1 from by have h1 := (o1.blk x hx).1; have h2 := hb1.lt; omega)
  have sb_b2_o1 := fun x hx => (show x ≠ b2 from by have h1 := (o1.blk x hx).1; have h2 := hb3.lt; omega)
  have hR2 : (rVec ((rVec b 0).2.1) ((rVec b 0).2.2)).2.1.length ≤ b.length := Nat.le_trans (rVec_len _ _) hR1
  refine pa_d [(18, _)] rfl rfl ⟨rfl, trivial⟩ rfl (fun w11 k8 => ?_)
  replace hb1 := hb1.keep0 k8
  replace rr := rr.keep0 k8
  replace oa := oa.keep0 k8
  replace ob := ob.keep0 k8
  replace oc := oc.keep0 k8
  replace hb3 := hb3.keep0 k8
  replace o1 := o1.keep0 k8
  replace hB := hB.trans k8
  refine (d_call (vs := [_]) rfl (vector_any _ ((rVec ((rVec b 0).2.1) ((rVec b 0).2.2)).2.1) ((rVec ((rVec b 0).2.1) ((rVec b 0).2.2)).2.2) _ rr (by omega))).mono ?_
  rintro v2 w10 ⟨_, rfl, o2, R2, km3⟩
  refine ⟨km3, (fun x hx => ⟨.inr (o2.blk x (o2.rd.cblk ▸ hx)).1, (o2.blk x (o2.rd.cblk ▸ hx)).2⟩), ?_⟩
  have zk8 := k8.size
  have z_km3 := km3.size
  replace hb1 := hb1.keep km3 (fun hm => by have h9 := List.mem_singleton.1 hm; omega)
  replace oa := oa.keep km3 (fun x hx hm => by have h9 := List.mem_singleton.1 hm; have h8 := (oa.blk x hx).1; omega)
  replace ob := ob.keep km3 (fun x hx hm => by have h9 := List.mem_singleton.1 hm; have h8 := (ob.blk x hx).1; omega)
  replace oc := oc.keep km3 (fun x hx hm => by have h9 := List.mem_singleton.1 hm; have h8 := (oc.blk x hx).1; omega)
  replace hb3 := hb3.keep km3 (fun hm => by have h9 := List.mem_singleton.1 hm; omega)
  replace o1 := o1.keep km3 (fun x hx hm => by have h9 := List.mem_singleton.1 hm; have h8 := (o1.blk x hx).1; omega)
  replace hB := hB.new km3 (fun x hm => .inl (by have h9 := List.mem_singleton.1 hm; omega))
  replace rr := R2
  have lv_km3 := rr.lt
  have gl_o2 := hB.size
  have sb_b1_o2 := fun x hx => (show x ≠ b1 from by have h1 := (o2.blk x hx).1; have h2 := hb1.lt; omega)
  have sb_b2_o2 := fun x hx => (show x ≠ b2 from by have h1 := (o2.blk x hx).1; have h2 := hb3.lt; omega)
  have hR3 : (rVec ((rVec ((rVec b 0).2.1) ((rVec b 0).2.2)).2.1) ((rVec ((rVec b 0).2.1) ((rVec b 0).2.2)).2.2)).2.1.length ≤ b.length := Nat.le_trans (rVec_len _ _) hR2
  refine pa_d [(20, _)] rfl rfl ⟨rfl, trivial⟩ rfl (fun w13 k9 => ?_)
  replace hb1 := hb1.keep0 k9
  replace rr := rr.keep0 k9
  replace oa := oa.keep0 k9
  replace ob := ob.keep0 k9
  replace oc := oc.keep0 k9
  replace hb3 := hb3.keep0 k9
  replace o1 := o1.keep0 k9
  replace o2 := o2.keep0 k9
  replace hB := hB.trans k9
  refine (d_call (vs := [_]) rfl (vector_any _ ((rVec ((rVec ((rVec b 0).2.1) ((rVec b 0).2.2)).2.1) ((rVec ((rVec b 0).2.1) ((rVec b 0).2.2)).2.2)).2.1) ((rVec ((rVec ((rVec b 0).2.1) ((rVec b 0).2.2)).2.1) ((rVec ((rVec b 0).2.1) ((rVec b 0).2.2)).2.2)).2.2) _ rr (by omega))).mono ?_
  rintro v3 w12 ⟨_, rfl, o3, R3, km4⟩
  refine ⟨km4, (fun x hx => ⟨.inr (o3.blk x (o3.rd.cblk ▸ hx)).1, (o3.blk x (o3.rd.cblk ▸ hx)).2⟩), ?_⟩
  have zk9 := k9.size
  have z_km4 := km4.size
  replace hb1 := hb1.keep km4 (fun hm => by have h9 := List.mem_singleton.1 hm; omega)
  replace oa := oa.keep km4 (fun x hx hm => by have h9 := List.mem_singleton.1 hm; have h8 := (oa.blk x hx).1; omega)
  replace ob := ob.keep km4 (fun x hx hm => by have h9 := List.mem_singleton.1 hm; have h8 := (ob.blk x hx).1; omega)
  replace oc := oc.keep km4 (fun x hx hm => by have h9 := List.mem_singleton.1 hm; have h8 := (oc.blk x hx).1; omega)
  replace hb3 := hb3.keep km4 (fun hm => by have h9 := List.mem_singleton.1 hm; omega)
  replace o1 := o1.keep km4 (fun x hx hm => by have h9 := List.mem_singleton.1 hm; have h8 := (o1.blk x hx).1; omega)
  replace o2 := o2.keep km4 (fun x hx hm => by have h9 := List.mem_singleton.1 hm; have h8 := (o2.blk x hx).1; omega)
  replace hB := hB.new km4 (fun x hm => .inl (by have h9 := List.mem_singleton.1 hm; omega))
  replace rr := R3
  have lv_km4 := rr.lt
  have gl_o3 := hB.size
  have sb_b1_o3 := fun x hx => (show x ≠ b1 from by have h1 := (o3.blk x hx).1; have h2 := hb1.lt; omega)
  have sb_b2_o3 := fun x hx => (show x ≠ b2 from by have h1 := (o3.blk x hx).1; have h2 := hb3.lt; omega)
  have hR4 : (rVec ((rVec ((rVec ((rVec b 0).2.1) ((rVec b 0).2.2)).2.1) ((rVec ((rVec b 0).2.1) ((rVec b 0).2.2)).2.2)).2.1) ((rVec ((rVec ((rVec b 0).2.1) ((rVec b 0).2.2)).2.1) ((rVec ((rVec b 0).2.1) ((rVec b 0).2.2)).2.2)).2.2)).2.1.length ≤ b.length := Nat.le_trans (rVec_len _ _) hR3
  refine pa_d [(22, _)] rfl rfl ⟨rfl, trivial⟩ rfl (fun w15 k10 => ?_)
  replace hb1 := hb1.keep0 k10
  replace rr := rr.keep0 k10
  replace oa := oa.keep0 k10
  replace ob := ob.keep0 k10
  replace oc := oc.keep0 k10
  replace hb3 := hb3.keep0 k10
  replace o1 := o1.keep0 k10
  replace o2 := o2.keep0 k10
  replace o3 := o3.keep0 k10
  replace hB := hB.trans k10
  refine (d_call (vs := [_, _]) rfl (rnum4_any p1 ((rVec ((rVec ((rVec ((rVec b 0).2.1) ((rVec b 0).2.2)).2.1) ((rVec ((rVec b 0).2.1) ((rVec b 0).2.2)).2.2)).2.1) ((rVec ((rVec ((rVec b 0).2.1) ((rVec b 0).2.2)).2.1) ((rVec ((rVec b 0).2.1) ((rVec b 0).2.2)).2.2)).2.2)).2.1) ((rVec ((rVec ((rVec ((rVec b 0).2.1) ((rVec b 0).2.2)).2.1) ((rVec ((rVec b 0).2.1) ((rVec b 0).2.2)).2.2)).2.1) ((rVec ((rVec ((rVec b 0).2.1) ((rVec b 0).2.2)).2.1) ((rVec ((rVec b 0).2.1) ((rVec b 0).2.2)).2.2)).2.2)).2.2) _ rr)).mono ?_
  rintro _ w14 ⟨rfl, R4, km5⟩
  refine ⟨km5, (fun x hx => by have hx : x ∈ ([] : List Nat) := hx; cases hx), ?_⟩
  have zk10 := k10.size
  have z_km5 := km5.size
  replace hb1 := hb1.keep km5 (fun hm => by have h9 := List.mem_singleton.1 hm; omega)
  replace oa := oa.keep km5 (fun x hx hm => by have h9 := List.mem_singleton.1 hm; have h8 := (oa.blk x hx).1; omega)
  replace ob := ob.keep km5 (fun x hx hm => by have h9 := List.mem_singleton.1 hm; have h8 := (ob.blk x hx).1; omega)
  replace oc := oc.keep km5 (fun x hx hm => by have h9 := List.mem_singleton.1 hm; have h8 := (oc.blk x hx).1; omega)
  replace hb3 := hb3.keep km5 (fun hm => by have h9 := List.mem_singleton.1 hm; omega)
  replace o1 := o1.keep km5 (fun x hx hm => by have h9 := List.mem_singleton.1 hm; have h8 := (o1.blk x hx).1; omega)
  replace o2 := o2.keep km5 (fun x hx hm => by have h9 := List.mem_singleton.1 hm; have h8 := (o2.blk x hx).1; omega)
  replace o3 := o3.keep km5 (fun x hx hm => by have h9 := List.mem_singleton.1 hm; have h8 := (o3.blk x hx).1; omega)
  replace hB := hB.new km5 (fun x hm => .inl (by have h9 := List.mem_singleton.1 hm; omega))
  replace rr := R4
  have lv_km5 := rr.lt
  have hR5 : (rNum 32 ((rVec ((rVec ((rVec ((rVec b 0).2.1) ((rVec b 0).2.2)).2.1) ((rVec ((rVec b 0).2.1) ((rVec b 0).2.2)).2.2)).2.1) ((rVec ((rVec ((rVec b 0).2.1) ((rVec b 0).2.2)).2.1) ((rVec ((rVec b 0).2.1) ((rVec b 0).2.2)).2.2)).2.2)).2.1) ((rVec ((rVec ((rVec ((rVec b 0).2.1) ((rVec b 0).2.2)).2.1) ((rVec ((rVec b 0).2.1) ((rVec b 0).2.2)).2.2)).2.1) ((rVec ((rVec ((rVec b 0).2.1) ((rVec b 0).2.2)).2.1) ((rVec ((rVec b 0).2.1) ((rVec b 0).2.2)).2.2)).2.2)).2.2) 4).2.1.length ≤ b.length := Nat.le_trans (rNum_len _ _ _ _) hR4
  refine pa_d [(24, _)] rfl rfl ⟨rfl, trivial⟩ rfl (fun w17 k11 => ?_)
  replace hb1 := hb1.keep0 k11
  replace rr := rr.keep0 k11
  replace oa := oa.keep0 k11
  replace ob := ob.keep0 k11
  replace oc := oc.keep0 k11
  replace hb3 := hb3.keep0 k11
  replace o1 := o1.keep0 k11
  replace o2 := o2.keep0 k11
  replace o3 := o3.keep0 k11
  replace hB := hB.trans k11
  refine (d_call (vs := [_]) rfl (vector_any _ ((rNum 32 ((rVec ((rVec ((rVec ((rVec b 0).2.1) ((rVec b 0).2.2)).2.1) ((rVec ((rVec b 0).2.1) ((rVec b 0).2.2)).2.2)).2.1) ((rVec ((rVec ((rVec b 0).2.1) ((rVec b 0).2.2)).2.1) ((rVec ((rVec b 0).2.1) ((rVec b 0).2.2)).2.2)).2.2)).2.1) ((rVec ((rVec ((rVec ((rVec b 0).2.1) ((rVec b 0).2.2)).2.1) ((rVec ((rVec b 0).2.1) ((rVec b 0).2.2)).2.2)).2.1) ((rVec ((rVec ((rVec b 0).2.1) ((rVec b 0).2.2)).2.1) ((rVec ((rVec b 0).2.1) ((rVec b 0).2.2)).2.2)).2.2)).2.2) 4).2.1) ((rNum 32 ((rVec ((rVec ((rVec ((rVec b 0).2.1) ((rVec b 0).2.2)).2.1) ((rVec ((rVec b 0).2.1) ((rVec b 0).2.2)).2.2)).2.1) ((rVec ((rVec ((rVec b 0).2.1) ((rVec b 0).2.2)).2.1) ((rVec ((rVec b 0).2.1) ((rVec b 0).2.2)).2.2)).2.2)).2.1) ((rVec ((rVec ((rVec ((rVec b 0).2.1) ((rVec b 0).2.2)).2.1) ((rVec ((rVec b 0).2.1) ((rVec b 0).2.2)).2.2)).2.1) ((rVec ((rVec ((rVec b 0).2.1) ((rVec b 0).2.2)).2.1) ((rVec ((rVec b 0).2.1) ((rVec b 0).2.2)).2.2)).2.2)).2.2) 4).2.2) _ rr (by omega))).mono ?_
  rintro v4 w16 ⟨_, rfl, o4, R5, km6⟩
  refine ⟨km6, (fun x hx => ⟨.inr (o4.blk x (o4.rd.cblk ▸ hx)).1, (o4.blk x (o4.rd.cblk ▸ hx)).2⟩), ?_⟩
  have zk11 := k11.size
  have z_km6 := km6.size
  replace hb1 := hb1.keep km6 (fun hm => by have h9 := List.mem_singleton.1 hm; omega)
  replace oa := oa.keep km6 (fun x hx hm => by have h9 := List.mem_singleton.1 hm; have h8 := (oa.blk x hx).1; omega)
  replace ob := ob.keep km6 (fun x hx hm => by have h9 := List.mem_singleton.1 hm; have h8 := (ob.blk x hx).1; omega)
  replace oc := oc.keep km6 (fun x hx hm => by have h9 := List.mem_singleton.1 hm; have h8 := (oc.blk x hx).1; omega)
  replace hb3 := hb3.keep km6 (fun hm => by have h9 := List.mem_singleton.1 hm; omega)
  replace o1 := o1.keep km6 (fun x hx hm => by have h9 := List.mem_singleton.1 hm; have h8 := (o1.blk x hx).1; omega)
  replace o2 := o2.keep km6 (fun x hx hm => by have h9 := List.mem_singleton.1 hm; have h8 := (o2.blk x hx).1; omega)
  replace o3 := o3.keep km6 (fun x hx hm => by have h9 := List.mem_singleton.1 hm; have h8 := (o3.blk x hx).1; omega)
  replace hB := hB.new km6 (fun x hm => .inl (by have h9 := List.mem_singleton.1 hm; omega))
  replace rr := R5
  have lv_km6 := rr.lt
  have gl_o4 := hB.size
  have sb_b1_o4 := fun x hx => (show x ≠ b1 from by have h1 := (o4.blk x hx).1; have h2 := hb1.lt; omega)
  have sb_b2_o4 := fun x hx => (show x ≠ b2 from by have h1 := (o4.blk x hx).1; have h2 := hb3.lt; omega)
  have hR6 : (rVec ((rNum 32 ((rVec ((rVec ((rVec ((rVec b 0).2.1) ((rVec b 0).2.2)).2.1) ((rVec ((rVec b 0).2.1) ((rVec b 0).2.2)).2.2)).2.1) ((rVec ((rVec ((rVec b 0).2.1) ((rVec b 0).2.2)).2.1) ((rVec ((rVec b 0).2.1) ((rVec b 0).2.2)).2.2)).2.2)).2.1) ((rVec ((rVec ((rVec ((rVec b 0).2.1) ((rVec b 0).2.2)).2.1) ((rVec ((rVec b 0).2.1) ((rVec b 0).2.2)).2.2)).2.1) ((rVec ((rVec ((rVec b 0).2.1) ((rVec b 0).2.2)).2.1) ((rVec ((rVec b 0).2.1) ((rVec b 0).2.2)).2.2)).2.2)).2.2) 4).2.1) ((rNum 32 ((rVec ((rVec ((rVec ((rVec b 0).2.1) ((rVec b 0).2.2)).2.1) ((rVec ((rVec b 0).2.1) ((rVec b 0).2.2)).2.2)).2.1) ((rVec ((rVec ((rVec b 0).2.1) ((rVec b 0).2.2)).2.1) ((rVec ((rVec b 0).2.1) ((rVec b 0).2.2)).2.2)).2.2)).2.1) ((rVec ((rVec ((rVec ((rVec b 0).2.1) ((rVec b 0).2.2)).2.1) ((rVec ((rVec b 0).2.1) ((rVec b 0).2.2)).2.2)).2.1) ((rVec ((rVec ((rVec b 0).2.1) ((rVec b 0).2.2)).2.1) ((rVec ((rVec b 0).2.1) ((rVec b 0).2.2)).2.2)).2.2)).2.2) 4).2.2)).2.1.length ≤ b.length := Nat.le_trans (rVec_len _ _) hR5
  refine pa_g [(15, _), (17, _), (19, _), (21, _), (23, _), (25, _)] rfl rfl ⟨rfl, rfl, rfl, rfl, rfl, rfl, trivial⟩ rfl (fun W' kk => g_bld (idx := [0, 1, 2, 3, 4, 5]) (xs := [.tmp 15, .tmp 17, .tmp 19, .tmp 21, .tmp 23, .tmp 25]) (vs := [_, _, _, _, _, _]) (css := [[gv, .int .i64 (cgC (rVec b 0).1).ep, tv, xv], [_], [_], [_], [_], [_]]) (out := [gv, .int .i64 (cgC (rVec b 0).1).ep, tv, xv, v1, v2, v3, .int .i64 (rNum 32 ((rVec ((rVec ((rVec ((rVec b 0).2.1) ((rVec b 0).2.2)).2.1) ((rVec ((rVec b 0).2.1) ((rVec b 0).2.2)).2.2)).2.1) ((rVec ((rVec ((rVec b 0).2.1) ((rVec b 0).2.2)).2.1) ((rVec ((rVec b 0).2.1) ((rVec b 0).2.2)).2.2)).2.2)).2.1) ((rVec ((rVec ((rVec ((rVec b 0).2.1) ((rVec b 0).2.2)).2.1) ((rVec ((rVec b 0).2.1) ((rVec b 0).2.2)).2.2)).2.1) ((rVec ((rVec ((rVec b 0).2.1) ((rVec b 0).2.2)).2.1) ((rVec ((rVec b 0).2.1) ((rVec b 0).2.2)).2.2)).2.2)).2.2) 4).1, v4]) pl86 ty86 rfl rfl ⟨rfl, Rd.cells (Own.rd o1), Rd.cells (Own.rd o2), Rd.cells (Own.rd o3), rfl, Rd.cells (Own.rd o4), trivial⟩ rfl rfl) ?_
  refine pa_d [(26, _), (27, _)] rfl rfl ⟨rfl, rfl, trivial⟩ rfl (fun w19 k13 => ?_)
  replace hb1 := hb1.keep0 k13
  replace rr := rr.keep0 k13
  replace oa := oa.keep0 k13
  replace ob := ob.keep0 k13
  replace oc := oc.keep0 k13
  replace hb3 := hb3.keep0 k13
  replace o1 := o1.keep0 k13
  replace o2 := o2.keep0 k13
  replace o3 := o3.keep0 k13
  replace o4 := o4.keep0 k13
  replace hB := hB.trans k13
  refine (d_call (vs := [_, _, _]) rfl (againi_k _ _ _ _ _ _ _ (infR b).1 _ oa.rd ob.rd oc.rd o1.rd o2.rd o3.rd o4.rd v b (by first | assumption | exact Own.rd (by assumption) | exact Rd.keep0 (by assumption) hB | exact Own.rd (Own.keep0 (by assumption) hB)) (fun y hy => by simp only [List.mem_append] at hy; rcases hy with hy | hy | hy | hy | hy | hy | hy <;> first | exact (oa.blk y hy).2 | exact (ob.blk y hy).2 | exact (oc.blk y hy).2 | exact (o1.blk y hy).2 | exact (o2.blk y hy).2 | exact (o3.blk y hy).2 | exact (o4.blk y hy).2))).mono ?_
  rintro _ w18 ⟨gq1, tq1, xq1, trq1, coq1, ouq1, sgq1, rfl, ⟨f11, f21, f31, f41, f51, f61, f71⟩, hcase, hcb, k12⟩
  refine ⟨k12.weak, (fun x hx => ⟨.inl (.inr rfl), hcb x hx⟩), ?_⟩
  replace hb1 := hb1.keep0 k12
  replace rr := rr.keep0 k12
  replace oa := oa.keep0 k12
  replace ob := ob.keep0 k12
  replace oc := oc.keep0 k12
  replace hb3 := hb3.keep0 k12
  replace o1 := o1.keep0 k12
  replace o2 := o2.keep0 k12
  replace o3 := o3.keep0 k12
  replace o4 := o4.keep0 k12
  replace hB := hB.trans k12
  refine pa_g [(28, _)] rfl rfl ⟨rfl, trivial⟩ rfl (fun W' kk => g_ext (vs := [_, _]) rfl rfl) ?_
  refine pa_g [(28, _)] rfl rfl ⟨rfl, trivial⟩ rfl (fun W' kk => g_ext (vs := [_, _]) rfl rfl) ?_
  refine pa_nil (fun w20 k14 => ?_)
  replace hb1 := hb1.keep0 k14
  replace oa := oa.keep0 k14
  replace ob := ob.keep0 k14
  replace oc := oc.keep0 k14
  replace hb3 := hb3.keep0 k14
  replace o1 := o1.keep0 k14
  replace o2 := o2.keep0 k14
  replace o3 := o3.keep0 k14
  replace o4 := o4.keep0 k14
  replace hB := hB.trans k14
  refine fina_nil ?_
  refine ow_d0 (d_sta ty86 rfl rfl rfl (by simp only [List.forall_mem_cons]; exact ⟨f11, rfl, f21, f31, f41, f51, f61, rfl, f71, fun v hv => by cases hv⟩) hb1 rfl) ?_
  rintro _ w21 ⟨hb4, k15, z4⟩
  replace oa := oa.keep k15 (fun x hx hm => sb_b1_oa x hx (List.mem_singleton.1 hm))
  replace ob := ob.keep k15 (fun x hx hm => sb_b1_ob x hx (List.mem_singleton.1 hm))
  replace oc := oc.keep k15 (fun x hx hm => sb_b1_oc x hx (List.mem_singleton.1 hm))
  replace hb3 := hb3.keep k15 (fun hm => absurd (List.mem_singleton.1 hm) (Ne.symm ne_b1_b2))
  replace o1 := o1.keep k15 (fun x hx hm => sb_b1_o1 x hx (List.mem_singleton.1 hm))
  replace o2 := o2.keep k15 (fun x hx hm => sb_b1_o2 x hx (List.mem_singleton.1 hm))
  replace o3 := o3.keep k15 (fun x hx hm => sb_b1_o3 x hx (List.mem_singleton.1 hm))
  replace o4 := o4.keep k15 (fun x hx hm => sb_b1_o4 x hx (List.mem_singleton.1 hm))
  replace hB := hB.new k15 (fun x hx => .inl ((List.mem_singleton.1 hx) ▸ ge_b1))
  clear z4
  replace hb4 : Bk w21 b1 _ [gq1, .int .i64 (bif (infOk (infR b).1 && decide (infB (infR b).1 = b)) then (infR b).1 else infZ).c.ep, tq1, xq1, trq1, coq1, ouq1, .int .i64 (bif (infOk (infR b).1 && decide (infB (infR b).1 = b)) then (infR b).1 else infZ).signer, sgq1] := hb4
  refine ow_g (g_as rfl) rfl ?_
  refine ow_nil ?_
  refine tw_keep [(2, _), (3, _)] ⟨rfl, rfl, trivial⟩ ?_
  refine tw_retct hfin Try.results34 rfl (run_loadAgg ag86 ty86 (by assumption) rfl) rfl ?_
  rw [igOk_B]
  rw [igOk_B] at hcase
  rcases hcase with ⟨hg, rfl, rfl, rfl, rfl, rfl, rfl, rfl⟩ | ⟨hg, rfl, rfl, rfl, rfl, rfl, rfl, rfl⟩
  · exact ⟨_, _, _, _, _, _, _, rfl, by unfold igI; rw [hg]; exact oa.rd, by unfold igI; rw [hg]; exact ob.rd, by unfold igI; rw [hg]; exact oc.rd, by unfold igI; rw [hg]; exact o1.rd, by unfold igI; rw [hg]; exact o2.rd, by unfold igI; rw [hg]; exact o3.rd, by unfold igI; rw [hg]; exact o4.rd, hB⟩
  · exact ⟨_, _, _, _, _, _, _, rfl, by unfold igI; rw [hg]; exact Rd.nil _ _, by unfold igI; rw [hg]; exact Rd.nil _ _, by unfold igI; rw [hg]; exact Rd.nil _ _, by unfold igI; rw [hg]; exact Rd.nil _ _, by unfold igI; rw [hg]; exact Rd.nil _ _, by unfold igI; rw [hg]; exact Rd.nil _ _, by unfold igI; rw [hg]; exact Rd.nil _ _, hB⟩
end Go.Proofs.Ytimeclfplaonkaa.W
