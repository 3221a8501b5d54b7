/- The walking engine, part 11: regions that draw their order, whose calls come one behind another: walked once, by a plan in which all that only reads comes as early as it may. Nothing here names a program. -/
import Derived.Test.YtkngeapegpehpaaEngJ
namespace Go.Eng
open Go Go.IntWalk
section
variable {P : Program} {n : Nat}
/-- One operation, from whatever frame of which this much is known. -/
def PStep (P : Program) (n : Nat) (ops : Array Oper) (o : Oper) (f1 : Fr) (w : World) (R : Value → World → Prop) : Prop :=
  ∀ a, Kn n f1 a → ∀ (K : Act → World → Prop) (Q : Exit → Act → World → Prop), (∀ v w', R v w' → K (a.put o.dst v) w') →
    (Region.wanted o (yielded ops a.tmps) = true → Oper.wp P o a w K Q) ∧ (Region.wanted o (yielded ops a.tmps) = false → K (a.put o.dst undef) w)
def depB (l : List Oper) (i j : Nat) : Bool := match l[i]? with
  | none => false
  | some o => o.after.toList.any fun e => e.on == j && Region.binds .any e
def slotsOk (l : List Oper) (p i : Nat) (f1 : Fr) : Bool :=
  f1.all fun q => (List.range p).all (fun j => !hasDst l j || dstOf l j != q.1) || (List.range p).any (fun j => depB l i j && (hasDst l j && dstOf l j == q.1))
def eager (l : List Oper) (cb : Nat → Bool) : List Nat → Bool
  | [] => true
  | c :: r => !r.contains c && (!cb c || r.all fun i => (c :: r).any fun j => depB l i j) && eager l cb r
def planOk (n : Nat) (l : List Oper) (p : Nat) (plan : List Nat) (cb : Nat → Bool) : Bool :=
  drawOk n l && tailOk l p && plan.all (fun i => Nat.blt i p && hasDst l i) && (List.range p).all (fun i => plan.contains i) && eager l cb plan
def PW (P : Program) (n : Nat) (l : List Oper) (p : Nat) (T : List Nat) (cb : Nat → Bool) (Fin : Fr → World → Prop) : List Nat → Fr → World → Prop
  | [], f, w => Fin f w
  | i :: r, f, w => ∃ o f1, l[i]? = some o ∧ Fr.sub f1 f ∧ slotsOk l p i f1 = true ∧
    ((cb i = true ∧ PStep P n l.toArray o f1 w (fun v w' => Keep T w w' ∧ PW P n l p T cb Fin r ((dstOf l i, v) :: f) w')) ∨
     (cb i = false ∧ ∃ v, (∀ w', Keep T w w' → PStep P n l.toArray o f1 w' (fun v' w'' => v' = v ∧ w'' = w')) ∧ PW P n l p T cb Fin r ((dstOf l i, v) :: f) w))
theorem PStep.mono {ops : Array Oper} {o : Oper} {f1 : Fr} {w : World} {R R' : Value → World → Prop} (h : PStep P n ops o f1 w R) (hr : ∀ v w', R v w' → R' v w') : PStep P n ops o f1 w R' :=
  fun a ha K Q hK => h a ha K Q (fun v w' hv => hK v w' (hr v w' hv))
theorem sub_get : ∀ {f1 f : Fr}, Fr.sub f1 f → ∀ t u, f1.get t = some u → f.get t = some u
  | [], _, _, t, u, h => by cases h
  | (k, v) :: r, f, ⟨h1, h2⟩, t, u, h => by
    simp only [Fr.get] at h
    by_cases e : Nat.beq k t = true
    · rw [e] at h
      simp only [cond_true, Option.some.injEq] at h
      have e' : k = t := Nat.eq_of_beq_eq_true e
      subst e' h; exact h1
    · have e' : Nat.beq k t = false := eq_false_of_ne_true e
      rw [e'] at h
      exact sub_get h2 t u h
theorem get_mem : ∀ {f1 : Fr} {t : Nat} {u : Value}, f1.get t = some u → ∃ q, q ∈ f1 ∧ q.1 = t
  | [], t, u, h => by cases h
  | (k, v) :: r, t, u, h => by
    simp only [Fr.get] at h
    by_cases e : Nat.beq k t = true
    · exact ⟨(k, v), by simp, Nat.eq_of_beq_eq_true e⟩
    · have e' : Nat.beq k t = false := eq_false_of_ne_true e
      rw [e'] at h
      obtain ⟨q, hq, hq'⟩ := get_mem (f1 := r) h
      exact ⟨q, by simp [hq], hq'⟩
theorem get_dep {l : List Oper} {vs : Nat → Value} {f0 : Fr} : ∀ {pre : List Nat} {t : Nat} {u : Value}, (depFr l vs pre ++ f0).get t = some u → (∃ j, j ∈ pre ∧ dstOf l j = t ∧ vs j = u) ∨ f0.get t = some u
  | [], t, u, h => .inr h
  | j :: r, t, u, h => by
    simp only [depFr, List.cons_append, Fr.get] at h
    by_cases e : Nat.beq (dstOf l j) t = true
    · rw [e] at h
      simp only [cond_true, Option.some.injEq] at h
      exact .inl ⟨j, by simp, Nat.eq_of_beq_eq_true e, h⟩
    · have e' : Nat.beq (dstOf l j) t = false := eq_false_of_ne_true e
      rw [e'] at h
      rcases get_dep (pre := r) h with ⟨i, hi, h1, h2⟩ | h1
      · exact .inl ⟨i, by simp [hi], h1, h2⟩
      · exact .inr h1
theorem eager_split {l : List Oper} {cb : Nat → Bool} : ∀ {pre rest : List Nat}, eager l cb (pre ++ rest) = true → eager l cb rest = true ∧ (∀ i, i ∈ pre → i ∉ rest)
  | [], _, h => ⟨h, fun i hi => by cases hi⟩
  | c :: r, rest, h => by
    simp only [List.cons_append, eager, Bool.and_eq_true] at h
    obtain ⟨h1, h2⟩ := eager_split (pre := r) h.2
    refine ⟨h1, fun i hi hm => ?_⟩
    rcases List.mem_cons.1 hi with rfl | hi
    · have := h.1.1
      simp [hm] at this
    · exact h2 i hi hm
theorem draw_distinct {l : List Oper} (hok : drawOk n l = true) {i j : Nat} (hi : i < l.length) (hj : j < l.length) (hdi : hasDst l i = true) (hdj : hasDst l j = true) (he : dstOf l i = dstOf l j) : i = j := by
  have h1 := List.all_eq_true.1 hok i (List.mem_range.2 hi)
  have hget : l[i]? = some l[i] := List.getElem?_eq_getElem hi
  simp only [hget, Bool.and_eq_true] at h1
  have h2 := h1.2
  have hs : l[i].dst.isSome = true := by
    unfold hasDst at hdi; rw [hget] at hdi; simpa using hdi
  rw [hs, Bool.not_true, Bool.false_or] at h2
  have h3 := List.all_eq_true.1 h2 j (List.mem_range.2 hj)
  simp only [Bool.or_eq_true, beq_iff_eq, bne_iff_ne, ne_eq, Bool.not_eq_true'] at h3
  rcases h3 with (h3 | h3) | h3
  · exact h3
  · exact absurd he h3
  · rw [hdj] at h3; cases h3
section
variable {l : List Oper} {p : Nat} {T : List Nat} {cb : Nat → Bool} {Fin : Fr → World → Prop} {f0 : Fr}
/-- What a frame's slots are that an operation looks at: those that it waits for, or old ones. -/
def Lk (l : List Oper) (f0 : Fr) (pre : List Nat) (vs : Nat → Value) (i : Nat) (f1 : Fr) : Prop :=
  ∀ t u, f1.get t = some u → (∃ j, j ∈ pre ∧ depB l i j = true ∧ dstOf l j = t ∧ vs j = u) ∨ f0.get t = some u
theorem lk_of {n : Nat} (hok : drawOk n l = true) (hpl : p ≤ l.length) {pre : List Nat} {vs : Nat → Value} {i : Nat} {f1 : Fr} (hpre : ∀ j, j ∈ pre → j < p ∧ hasDst l j = true) (hs : Fr.sub f1 (depFr l vs pre.reverse ++ f0)) (h : slotsOk l p i f1 = true) : Lk l f0 pre vs i f1 := by
  intro t u ht
  rcases get_dep (sub_get hs t u ht) with ⟨j, hj, h1, h2⟩ | h1
  · have hj' : j ∈ pre := by simpa using hj
    obtain ⟨q, hq, hq'⟩ := get_mem ht
    have h3 := List.all_eq_true.1 h q hq
    simp only [Bool.or_eq_true] at h3
    rcases h3 with h3 | h3
    · have h4 := List.all_eq_true.1 h3 j (List.mem_range.2 (hpre j hj').1)
      rw [(hpre j hj').2, hq'] at h4
      simp [h1] at h4
    · obtain ⟨j', hj1, h5⟩ := List.any_eq_true.1 h3
      simp only [Bool.and_eq_true, beq_iff_eq] at h5
      have hlt := List.mem_range.1 hj1
      have : j = j' := draw_distinct hok (Nat.lt_of_lt_of_le (hpre j hj').1 hpl) (Nat.lt_of_lt_of_le hlt hpl) (hpre j hj').2 h5.2.1 (by rw [h1, h5.2.2, hq'])
      subst this
      exact .inl ⟨j, hj', h5.1, h1, h2⟩
  · exact .inr h1
def RdOk (P : Program) (n : Nat) (l : List Oper) (T : List Nat) (f0 : Fr) (pre : List Nat) (vs : Nat → Value) (w : World) (i : Nat) : Prop :=
  ∃ o f1, l[i]? = some o ∧ Lk l f0 pre vs i f1 ∧ ∀ w', Keep T w w' → PStep P n l.toArray o f1 w' (fun v' w'' => v' = vs i ∧ w'' = w')
theorem Lk.mono {pre pre' : List Nat} {vs vs' : Nat → Value} {i : Nat} {f1 : Fr} (h : Lk l f0 pre vs i f1) (hm : ∀ j, j ∈ pre → j ∈ pre' ∧ vs' j = vs j) : Lk l f0 pre' vs' i f1 := by
  intro t u ht
  rcases h t u ht with ⟨j, h1, h2, h3, h4⟩ | h1
  · exact .inl ⟨j, (hm j h1).1, h2, h3, by rw [(hm j h1).2, h4]⟩
  · exact .inr h1
theorem RdOk.mono {pre pre' : List Nat} {vs vs' : Nat → Value} {w w' : World} {i : Nat} (h : RdOk P n l T f0 pre vs w i) (hi : i ∈ pre) (hm : ∀ j, j ∈ pre → j ∈ pre' ∧ vs' j = vs j) (hk : Keep T w w') : RdOk P n l T f0 pre' vs' w' i := by
  obtain ⟨o, f1, h1, h2, h3⟩ := h
  refine ⟨o, f1, h1, h2.mono hm, fun w2 hk2 => ?_⟩
  rw [(hm i hi).2]
  exact h3 w2 (hk.trans hk2)
def setV (vs : Nat → Value) (i : Nat) (v : Value) : Nat → Value := fun j => bif Nat.beq j i then v else vs j
theorem setV_same (vs : Nat → Value) (i : Nat) (v : Value) : setV vs i v i = v := by simp [setV]
theorem setV_other (vs : Nat → Value) {i j : Nat} (v : Value) (h : j ≠ i) : setV vs i v j = vs j := by
  unfold setV
  cases hb : Nat.beq j i with
  | false => rfl
  | true => exact absurd (Nat.eq_of_beq_eq_true hb) h
theorem depFr_setV {vs : Nat → Value} {i : Nat} {v : Value} : ∀ {pre : List Nat}, i ∉ pre → depFr l (setV vs i v) pre = depFr l vs pre
  | [], _ => rfl
  | j :: r, h => by
    simp only [depFr]
    rw [setV_other vs v (fun e => h (by simp [e])), depFr_setV (pre := r) (fun hm => h (by simp [hm]))]
theorem absorb {n : Nat} (hok : drawOk n l = true) (hpl : p ≤ l.length) : ∀ (rest pre : List Nat) (vs : Nat → Value) (w : World), eager l cb (pre ++ rest) = true → (∀ j, j ∈ pre ++ rest → j < p ∧ hasDst l j = true) → PW P n l p T cb Fin rest (depFr l vs pre.reverse ++ f0) w →
    (∀ i, i ∈ pre → cb i = false → RdOk P n l T f0 pre vs w i) → ∃ pre' rest' vs', pre ++ rest = pre' ++ rest' ∧ (∀ i, i ∈ pre → i ∈ pre' ∧ vs' i = vs i) ∧ (∀ i, i ∈ pre' → i ∈ pre ∨ cb i = false) ∧ (∀ c r, rest' = c :: r → cb c = true) ∧
      PW P n l p T cb Fin rest' (depFr l vs' pre'.reverse ++ f0) w ∧ ∀ i, i ∈ pre' → cb i = false → RdOk P n l T f0 pre' vs' w i
  | [], pre, vs, w, _, _, h, hr => ⟨pre, [], vs, rfl, fun i hi => ⟨hi, rfl⟩, fun i hi => .inl hi, (fun c r h => by cases h), h, hr⟩
  | i :: r, pre, vs, w, he, hb, h, hr => by
    have h0 := h
    unfold PW at h
    obtain ⟨o, f1, h1, h2, h3, h4⟩ := h
    rcases h4 with ⟨hc, _⟩ | ⟨hc, v, h5, h6⟩
    · exact ⟨pre, i :: r, vs, rfl, fun i hi => ⟨hi, rfl⟩, fun i hi => .inl hi, (fun c r h => by cases h; exact hc), h0, hr⟩
    · have hni : i ∉ pre := fun hm => (eager_split he).2 i hm (by simp)
      have hlk := lk_of (f0 := f0) hok hpl (fun j hj => hb j (by simp [hj])) h2 h3
      have hm : ∀ j, j ∈ pre → j ∈ pre ++ [i] ∧ setV vs i v j = vs j := fun j hj => ⟨by simp [hj], setV_other vs v (fun e => hni (e ▸ hj))⟩
      have hnr : i ∉ pre.reverse := by simpa using hni
      obtain ⟨pre', rest', vs', k1, k2, k3, k4, k5, k6⟩ := absorb hok hpl r (pre ++ [i]) (setV vs i v) w (by simpa using he) (by simpa using hb)
        (by rw [List.reverse_append, List.reverse_singleton, List.singleton_append, depFr, setV_same, depFr_setV hnr]; exact h6)
        (fun j hj hcj => by
          rcases List.mem_append.1 hj with h | h
          · exact (hr j h hcj).mono h hm (Keep.refl _ _)
          · rw [List.mem_singleton] at h
            subst h
            refine ⟨o, f1, h1, hlk.mono hm, fun w2 hk2 => ?_⟩
            rw [setV_same]; exact h5 w2 hk2)
      refine ⟨pre', rest', vs', by simpa using k1, fun j hj => ?_, fun j hj => ?_, k4, k5, k6⟩
      · obtain ⟨q1, q2⟩ := k2 j (hm j hj).1
        exact ⟨q1, q2.trans (hm j hj).2⟩
      · rcases k3 j hj with h | h
        · rcases List.mem_append.1 h with h | h
          · exact .inl h
          · rw [List.mem_singleton] at h; subst h; exact .inr hc
        · exact .inr h
theorem kn_lk {pre : List Nat} {vs : Nat → Value} {i : Nat} {f1 : Fr} {a : Act} (hk : Kn n f0 a) (hl : Lk l f0 pre vs i f1) (hd : ∀ j, depB l i j = true → j ∈ pre → a.tmps.getD (dstOf l j) undef = vs j) : Kn n f1 a := by
  refine ⟨hk.size, hk.defers, fun t u ht => ?_⟩
  rcases hl t u ht with ⟨j, h1, h2, h3, h4⟩ | h1
  · rw [← h3, ← h4]; exact hd j h2 h1
  · exact hk.get t u h1
end
variable {fin : Exit → Act → World → Prop} {k : List KI} {f : Fr} {w : World}
theorem tw_plan {id : Nat} {l : List Oper} (p : Nat) (plan : List Nat) (cs : List Nat) (T : List Nat) (hm : P.follows .mixedOrders = true) (f0 : Fr) (hf : Fr.sub f0 f) (hok : planOk n l p plan (fun i => cs.contains i) = true) (hfree0 : freeOk (l.take p) f0 = true)
    (h : ∀ w1, Keep [] w w1 → PW P n l p T (fun i => cs.contains i) (fun f' w' => OW P fin n k l.toArray (l.drop p) f' w') plan f0 w1) :
    TW P fin n (.c (.region id l.toArray true) :: k) f w := by
  intro a ha
  simp only [KQ]
  have ha0 := ha.sub hf
  simp only [planOk, Bool.and_eq_true] at hok
  obtain ⟨⟨⟨⟨hdr, ht⟩, hall⟩, hcov⟩, heag⟩ := hok
  have hpl : p ≤ l.length := by simp only [tailOk, Bool.and_eq_true] at ht; exact Nat.le_of_ble_eq_true ht.1
  have hplan : ∀ j, j ∈ plan → j < p ∧ hasDst l j = true := by
    intro j hj
    have := List.all_eq_true.1 hall j hj
    simp only [Bool.and_eq_true] at this
    exact ⟨blt_lt this.1, this.2⟩
  have hmem : ∀ j, j < p → j ∈ plan := by
    intro j hj
    have := List.all_eq_true.1 hcov j (List.mem_range.2 hj)
    simpa using this
  have hfree : ∀ i, i < p → hasDst l i = true → f0.get (dstOf l i) = none := by
    intro i hi hd
    have e1 : dstOf (l.take p) i = dstOf l i := by unfold dstOf; rw [List.getElem?_take, if_pos hi]
    have e2 : hasDst (l.take p) i = hasDst l i := by unfold hasDst; rw [List.getElem?_take, if_pos hi]
    rw [← e1]
    exact get_none_of_free (l := l.take p) (by rw [List.length_take]; omega) (by rw [e2]; exact hd) hfree0
  refine wp_region_any hm ?_
  have key : ∀ (fuel : Nat) (listed : Array Bool) (a : Act) (w' : World), listed.size = l.length → left l.length listed ≤ fuel → Kn n f0 a → (∀ i, p ≤ i → i < l.length → listed.getD i false = false) → (∀ i, listed.getD i false = true → i < p) →
      (∃ pre rest vs, plan = pre ++ rest ∧ (∀ c r, rest = c :: r → cs.contains c = true) ∧ PW P n l p T (fun i => cs.contains i) (fun f' w' => OW P fin n k l.toArray (l.drop p) f' w') rest (depFr l vs pre.reverse ++ f0) w' ∧
        (∀ i, i ∈ pre → cs.contains i = false → RdOk P n l T f0 pre vs w' i) ∧ (∀ i, i ∈ pre → cs.contains i = true → listed.getD i false = true) ∧ (∀ i, listed.getD i false = true → i ∈ pre ∧ a.tmps.getD (dstOf l i) undef = vs i)) →
      wpAny P .any l.toArray (KQ P fin k) fuel listed a w' := by
    intro fuel
    induction fuel with
    | zero =>
      intro listed a w' hs hle hk hun hlp hst
      have hlist : ∀ i, i < l.length → listed.getD i false = true := by
        intro i hi
        cases hc : listed.getD i false with
        | true => rfl
        | false =>
          exfalso
          have := left_set hi hs (by rw [getD_lists hs hi true false]; exact hc)
          omega
      have hpe : p = l.length := by
        rcases Nat.lt_or_ge p l.length with h1 | h1
        · have := hun p (Nat.le_refl _) h1; rw [hlist p h1] at this; cases this
        · omega
      obtain ⟨pre, rest, vs, h1, h2, h3, h4, h5, h6⟩ := hst
      have hrest : rest = [] := by
        cases rest with
        | nil => rfl
        | cons c r =>
          exfalso
          have hc := hplan c (by rw [h1]; simp)
          have := (h6 c (hlist c (by omega))).1
          exact (eager_split (pre := pre) (h1 ▸ heag)).2 c this (by simp)
      subst hrest
      refine wpAny_tail hdr ht 0 p 0 listed a w' (by omega) hpl (Nat.le_refl _) (Nat.le_refl _) hs (fun i hi => by rw [hlist i hi]; simp; omega) ?_
      refine h3 a (Kn.app ?_ hk)
      intro q hq
      obtain ⟨j, hj, rfl⟩ := mem_depFr hq
      have hj' : j ∈ pre := by simpa using hj
      exact (h6 j (hlist j (by have := (hplan j (by rw [h1]; simp [hj'])).1; omega))).2
    | succ fuel ih =>
      intro listed a w' hs hle hk hun hlp hst
      obtain ⟨pre, rest, vs, h1, h2, h3, h4, h5, h6⟩ := hst
      by_cases hfull : ∀ i, i < p → listed.getD i false = true
      · have hrest : rest = [] := by
          cases rest with
          | nil => rfl
          | cons c r =>
            exfalso
            have hc := hplan c (by rw [h1]; simp)
            have := (h6 c (hfull c hc.1)).1
            exact (eager_split (pre := pre) (h1 ▸ heag)).2 c this (by simp)
        subst hrest
        refine wpAny_tail hdr ht (l.length - p) p (fuel + 1) listed a w' rfl hpl (Nat.le_refl _) ?_ hs (fun i hi => ?_) ?_
        · refine Nat.le_trans ?_ hle
          unfold left
          have e1 : l.length - p = ((List.range' p (l.length - p)).countP fun i => !listed.getD i true) := by
            rw [List.countP_eq_length.2 (fun i hi => ?_)]
            · simp
            · rw [List.mem_range'_1] at hi
              rw [getD_lists hs (by omega) true false, hun i (by omega) (by omega)]; rfl
          rw [e1]
          have e2 : List.range l.length = List.range p ++ List.range' p (l.length - p) := by
            have e3 := List.range'_append_1 (s := 0) (m := p) (n := l.length - p)
            rw [Nat.zero_add] at e3
            rw [List.range_eq_range', List.range_eq_range', e3]; congr 1; omega
          rw [e2, List.countP_append]; omega
        · by_cases hip : i < p
          · rw [hfull i hip]; simp [hip]
          · rw [hun i (by omega) hi]; simp [hip]
        · refine h3 a (Kn.app ?_ hk)
          intro q hq
          obtain ⟨j, hj, rfl⟩ := mem_depFr hq
          have hj' : j ∈ pre := by simpa using hj
          exact (h6 j (hfull j (hplan j (by rw [h1]; simp [hj'])).1)).2
      · obtain ⟨q, hq⟩ := Classical.not_forall.1 hfull
        obtain ⟨hq1, hq2⟩ := Classical.not_imp.1 hq
        have hq2 : listed.getD q false = false := eq_false_of_ne_true hq2
        refine ⟨fun hr => (by
          have := all_listed hdr rfl hs hr q (by omega)
          rw [hq2] at this; cases this), fun i hi => ?_⟩
        obtain ⟨h0, o, ho, hedge⟩ := mem_ready.1 hi
        have ho' : l[i]? = some o := by simpa using ho
        have hlt : i < l.length := (List.getElem?_eq_some_iff.1 ho').1
        have hdepl : ∀ j, depB l i j = true → listed.getD j false = true := by
          intro j hj
          simp only [depB, ho'] at hj
          obtain ⟨e, he, h7⟩ := List.any_eq_true.1 hj
          simp only [Bool.and_eq_true, beq_iff_eq] at h7
          have := hedge e (Array.mem_toList_iff.1 he) h7.2
          rwa [h7.1] at this
        have hip : i < p := by
          rcases Nat.lt_or_ge i p with h7 | h7
          · exact h7
          · exfalso
            obtain ⟨e, he, h8, h9⟩ := tail_dep ht hlt h7 (Nat.lt_of_lt_of_le hq1 h7) ho'
            have := hedge e he h9
            rw [h8, hq2] at this; cases this
        have hil : listed.getD i false = false := by rw [getD_lists hs hlt false true]; exact h0
        have hid : hasDst l i = true := (hplan i (hmem i hip)).2
        obtain ⟨d, hod⟩ : ∃ d, o.dst = some d := by
          unfold hasDst at hid; rw [ho'] at hid
          cases hd : o.dst with
          | none => rw [Option.bind_some, hd] at hid; cases hid
          | some d => exact ⟨d, rfl⟩
        have hdd : dstOf l i = d := by simp [dstOf, ho', hod]
        have hdn : d < n := by
          have h8 := List.all_eq_true.1 hdr i (List.mem_range.2 hlt)
          simp only [ho', Bool.and_eq_true] at h8
          rw [hdd] at h8
          exact blt_lt h8.1.1
        have hleft := left_set hlt hs h0
        have hun' : ∀ j, p ≤ j → j < l.length → (listed.setIfInBounds i true).getD j false = false := fun j h1 h2 => by rw [getD_set_ne false (by omega)]; exact hun j h1 h2
        have hlp' : ∀ j, (listed.setIfInBounds i true).getD j false = true → j < p := by
          intro j hj
          by_cases hij : i = j
          · subst hij; exact hip
          · rw [getD_set_ne false hij] at hj; exact hlp j hj
        have hput : ∀ v, (a.put o.dst v).tmps.getD (dstOf l i) undef = v := by
          intro v
          rw [hdd, hod]; simp [Act.put, Array.getD_eq_getD_getElem?, hk.size, hdn]
        have hputo : ∀ v j, j < p → hasDst l j = true → i ≠ j → (a.put o.dst v).tmps.getD (dstOf l j) undef = a.tmps.getD (dstOf l j) undef := by
          intro v j hj hdj hij
          have hne : d ≠ dstOf l j := fun e => hij (draw_distinct hdr hlt (by omega) hid hdj (by rw [hdd, e]))
          rw [hod]
          simp only [Act.put, Array.getD_eq_getD_getElem?]; rw [Array.getElem?_setIfInBounds_ne hne]
        have hkput : ∀ v, Kn n f0 (a.put o.dst v) := by
          intro v
          rw [hod]
          exact hk.putOther (by rw [← hdd]; exact hfree i hip hid) v
        have hpm := hmem i hip
        rw [h1] at hpm
        have hpredep : ∀ j, depB l i j = true → j ∈ pre → a.tmps.getD (dstOf l j) undef = vs j := fun j hj _ => (h6 j (hdepl j hj)).2
        have step : ∀ f1, Kn n f1 a → ∀ R : Value → World → Prop, PStep P n l.toArray o f1 w' R → (∀ v w2, R v w2 → wpAny P .any l.toArray (KQ P fin k) fuel (listed.setIfInBounds i true) (a.put o.dst v) w2) → wpOp P l.toArray (KQ P fin k) i (wpAny P .any l.toArray (KQ P fin k) fuel (listed.setIfInBounds i true)) a w' := by
          intro f1 hkf R hp hn
          obtain ⟨p1, p2⟩ := hp a hkf (wpAny P .any l.toArray (KQ P fin k) fuel (listed.setIfInBounds i true)) (KQ P fin k) hn
          unfold wpOp
          rw [ho]
          simp only
          by_cases hw : Region.wanted o (yielded l.toArray a.tmps) = true
          · rw [if_pos hw]; exact .inl (p1 hw)
          · rw [if_neg hw]; exact p2 (eq_false_of_ne_true hw)
        rcases List.mem_append.1 hpm with hpre | hrs
        · have hcb : cs.contains i = false := by
            cases hc : cs.contains i with
            | false => rfl
            | true => have := h5 i hpre hc; rw [hil] at this; cases this
          obtain ⟨o2, f1, g1, g2, g3⟩ := h4 i hpre hcb
          rw [ho'] at g1
          simp only [Option.some.injEq] at g1
          subst g1
          refine step f1 (kn_lk hk g2 hpredep) _ (g3 w' (Keep.refl _ _)) ?_
          rintro v w2 ⟨rfl, rfl⟩
          refine ih _ _ _ (by simpa using hs) (by omega) (hkput _) hun' hlp' ⟨pre, rest, vs, h1, h2, h3, h4, fun j hj hc => ?_, fun j hj => ?_⟩
          · by_cases hij : i = j
            · subst hij; rw [hcb] at hc; cases hc
            · rw [getD_set_ne false hij]; exact h5 j hj hc
          · by_cases hij : i = j
            · subst hij; exact ⟨hpre, hput _⟩
            · rw [getD_set_ne false hij] at hj
              obtain ⟨m1, m2⟩ := h6 j hj
              have hpj := hplan j (by rw [h1]; simp [m1])
              exact ⟨m1, by rw [hputo _ j hpj.1 hpj.2 hij]; exact m2⟩
        · cases rest with
          | nil => cases hrs
          | cons c r =>
            have hcc := h2 c r rfl
            rw [h1] at heag
            obtain ⟨he1, he2⟩ := eager_split heag
            rcases List.mem_cons.1 hrs with hic | hir
            · subst hic
              have h30 := h3
              unfold PW at h30
              obtain ⟨o2, f1, g1, g2, g3, g4⟩ := h30
              rw [ho'] at g1
              simp only [Option.some.injEq] at g1
              subst g1
              rcases g4 with ⟨_, g4⟩ | ⟨g4, _⟩
              · have hlk := lk_of (f0 := f0) hdr hpl (fun j hj => hplan j (by rw [h1]; simp [hj])) g2 g3
                refine step f1 (kn_lk hk hlk hpredep) _ g4 ?_
                rintro v w2 ⟨hkw, hpw⟩
                have hni : i ∉ pre := fun hm => he2 i hm (by simp)
                have hnr : i ∉ pre.reverse := by simpa using hni
                have hmm : ∀ j, j ∈ pre → j ∈ pre ++ [i] ∧ setV vs i v j = vs j := fun j hj => ⟨by simp [hj], setV_other vs v (fun e => hni (e ▸ hj))⟩
                obtain ⟨pre', rest', vs', k1, k2, k3, k4, k5, k6⟩ := absorb (f0 := f0) (T := T) (cb := fun i => cs.contains i) hdr hpl r (pre ++ [i]) (setV vs i v) w2 (by rw [List.append_assoc, List.singleton_append]; exact heag) (by rw [List.append_assoc, List.singleton_append, ← h1]; exact hplan)
                  (by rw [List.reverse_append, List.reverse_singleton, List.singleton_append, depFr, setV_same, depFr_setV hnr]; exact hpw)
                  (fun j hj hcj => by
                    rcases List.mem_append.1 hj with h | h
                    · exact (h4 j h hcj).mono h hmm hkw
                    · rw [List.mem_singleton] at h
                      subst h; rw [hcc] at hcj; cases hcj)
                have hsame : ∀ j, j ∈ pre → j ∈ pre' ∧ vs' j = vs j := fun j hj => ⟨(k2 j (hmm j hj).1).1, ((k2 j (hmm j hj).1).2).trans (hmm j hj).2⟩
                have hci := k2 i (by simp)
                rw [setV_same] at hci
                refine ih _ _ _ (by simpa using hs) (by omega) (hkput _) hun' hlp' ⟨pre', rest', vs', by rw [← k1, h1]; simp, k4, k5, k6, fun j hj hc => ?_, fun j hj => ?_⟩
                · by_cases hij : i = j
                  · subst hij
                    rw [Array.getD_eq_getD_getElem?]; simp [hs, hlt]
                  · rw [getD_set_ne false hij]
                    rcases k3 j hj with h | h
                    · rcases List.mem_append.1 h with h | h
                      · exact h5 j h hc
                      · rw [List.mem_singleton] at h; exact absurd h.symm hij
                    · rw [hc] at h; cases h
                · by_cases hij : i = j
                  · subst hij; exact ⟨hci.1, by rw [hput, hci.2]⟩
                  · rw [getD_set_ne false hij] at hj
                    obtain ⟨m1, m2⟩ := h6 j hj
                    have hpj := hplan j (by rw [h1]; simp [m1])
                    exact ⟨(hsame j m1).1, by rw [hputo _ j hpj.1 hpj.2 hij, (hsame j m1).2]; exact m2⟩
              · rw [hcc] at g4; cases g4
            · exfalso
              simp only [eager, Bool.and_eq_true] at he1
              have h7 := he1.1.2
              rw [hcc, Bool.not_true, Bool.false_or] at h7
              have h8 := List.all_eq_true.1 h7 i hir
              obtain ⟨j, hj, hdj⟩ := List.any_eq_true.1 h8
              exact he2 j (h6 j (hdepl j hdj)).1 hj
  obtain ⟨pre', rest', vs', k1, k2, k3, k4, k5, k6⟩ := absorb (f0 := f0) (T := T) hdr hpl plan [] (fun _ => undef) _ heag hplan (h _ (keep_drew w)) (fun i hi => by cases hi)
  refine key _ _ a _ (by simp) ?_ ha0 ?_ ?_ ⟨pre', rest', vs', k1, k4, k5, k6, fun i hi hc => ?_, fun i hi => ?_⟩
  · unfold left
    have := List.countP_le_length (p := fun i => !(Array.replicate l.toArray.size false).getD i true) (l := List.range l.length)
    simpa using this
  · intro i _ hi
    rw [Array.getD_eq_getD_getElem?, Array.getElem?_eq_getElem (by simpa using hi)]; simp
  · intro i hi
    exfalso
    rw [Array.getD_eq_getD_getElem?] at hi
    rcases Nat.lt_or_ge i l.toArray.size with h' | h'
    · rw [Array.getElem?_eq_getElem (by simpa using h')] at hi; simp at hi
    · rw [Array.getElem?_eq_none (by simpa using h')] at hi; simp at hi
  · rcases k3 i hi with h | h
    · cases h
    · rw [hc] at h; cases h
  · exfalso
    rw [Array.getD_eq_getD_getElem?] at hi
    rcases Nat.lt_or_ge i l.toArray.size with h' | h'
    · rw [Array.getElem?_eq_getElem (by simpa using h')] at hi; simp at hi
    · rw [Array.getElem?_eq_none (by simpa using h')] at hi; simp at hi
end
end Go.Eng
