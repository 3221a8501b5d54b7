/- The walking engine, part 8: regions that draw their order up to a tail that waits for all before it; results in memory. Nothing here names a program. -/
import Derived.Test.YtkngeapegpehpaaEngG
namespace Go.Eng
open Go Go.IntWalk
/-- From number p on each operation waits for all before it. -/
def tailOk (l : List Oper) (p : Nat) : Bool := Nat.ble p l.length && (List.range l.length).all fun i => Nat.blt i p || (List.range i).all fun j => match l[i]? with
  | none => false
  | some o => o.after.toList.any fun e => e.on == j && Region.binds .any e
section
variable {P : Program} {n : Nat}
theorem tail_dep {l : List Oper} {p i j : Nat} (h : tailOk l p = true) (hi : i < l.length) (hp : p ≤ i) (hj : j < i) {o : Oper} (ho : l[i]? = some o) : ∃ e ∈ o.after, e.on = j ∧ Region.binds .any e = true := by
  simp only [tailOk, Bool.and_eq_true] at h
  have h1 := List.all_eq_true.1 h.2 i (List.mem_range.2 hi)
  have hn : Nat.blt i p = false := by
    cases hb : Nat.blt i p with
    | false => rfl
    | true => have := blt_lt hb; omega
  rw [hn, Bool.false_or] at h1
  have h2 := List.all_eq_true.1 h1 j (List.mem_range.2 hj)
  rw [ho] at h2
  obtain ⟨e, he, h3⟩ := List.any_eq_true.1 h2
  simp only [Bool.and_eq_true, beq_iff_eq] at h3
  exact ⟨e, Array.mem_toList_iff.1 he, h3.1, h3.2⟩
theorem getD_lists {listed : Array Bool} {i m : Nat} (hs : listed.size = m) (hi : i < m) (d d' : Bool) : listed.getD i d = listed.getD i d' := by
  rw [Array.getD_eq_getD_getElem?, Array.getD_eq_getD_getElem?, Array.getElem?_eq_getElem (by omega)]; rfl
theorem wpAny_tail {l : List Oper} {p0 : Nat} {Q : Exit → Act → World → Prop} (hok : drawOk n l = true) (ht : tailOk l p0 = true) : ∀ (d p fuel : Nat) (listed : Array Bool) (a : Act) (w : World), d = l.length - p → p ≤ l.length → p0 ≤ p → d ≤ fuel → listed.size = l.length →
    (∀ i, i < l.length → listed.getD i false = decide (i < p)) → wpList P l.toArray Q (l.drop p) a w → wpAny P .any l.toArray Q fuel listed a w := by
  intro d
  induction d with
  | zero =>
    intro p fuel listed a w hd hp hp0 hf hs hl h
    have hpl : p = l.length := by omega
    subst hpl
    rw [List.drop_length] at h
    have hr : Region.ready .any l.toArray listed = [] := by
      cases hr : Region.ready .any l.toArray listed with
      | nil => rfl
      | cons i r =>
        exfalso
        have hi : i ∈ Region.ready .any l.toArray listed := by rw [hr]; simp
        obtain ⟨h0, o, ho, _⟩ := mem_ready.1 hi
        have hlt : i < l.length := by have := (Array.getElem?_eq_some_iff.1 ho).1; simpa using this
        rw [getD_lists hs hlt true false, hl i hlt] at h0
        simp [hlt] at h0
    cases fuel with
    | zero => exact ⟨hr, h⟩
    | succ f => exact ⟨fun _ => h, fun i hi => by rw [hr] at hi; cases hi⟩
  | succ d ih =>
    intro p fuel listed a w hd hp hp0 hf hs hl h
    have hplt : p < l.length := by omega
    obtain ⟨f, rfl⟩ : ∃ f, fuel = f + 1 := ⟨fuel - 1, by omega⟩
    have hget : l[p]? = some l[p] := List.getElem?_eq_getElem hplt
    have honly : ∀ i, i ∈ Region.ready .any l.toArray listed → i = p := by
      intro i hi
      obtain ⟨h0, o, ho, hedge⟩ := mem_ready.1 hi
      have hlt : i < l.length := by have := (Array.getElem?_eq_some_iff.1 ho).1; simpa using this
      have h1 : ¬ i < p := by
        rw [getD_lists hs hlt true false, hl i hlt] at h0
        simpa using h0
      rcases Nat.lt_or_ge p i with h2 | h2
      · obtain ⟨e, he, h3, h4⟩ := tail_dep ht hlt (by omega) h2 (by simpa using ho)
        have := hedge e he h4
        rw [h3, hl p hplt] at this
        simp at this
      · omega
    have hmem : p ∈ Region.ready .any l.toArray listed := by
      refine mem_ready.2 ⟨by rw [getD_lists hs hplt true false, hl p hplt]; simp, l[p], by simp [hget], fun e he hb => ?_⟩
      have h1 := List.all_eq_true.1 hok p (List.mem_range.2 hplt)
      simp only [hget, Bool.and_eq_true] at h1
      have h2 := List.all_eq_true.1 h1.1.2 e (Array.mem_toList_iff.2 he)
      rw [hb] at h2
      have h3 : e.on < p := blt_lt (by simpa using h2)
      rw [hl e.on (by omega)]; simpa using h3
    refine ⟨fun hr => (by rw [hr] at hmem; cases hmem), fun i hi => ?_⟩
    have := honly i hi
    subst this
    rw [List.drop_eq_getElem_cons hplt] at h
    unfold wpOp
    rw [show l.toArray[i]? = some l[i] from by simp [hget]]
    simp only
    unfold wpList at h
    have hnext : ∀ a' w', wpList P l.toArray Q (l.drop (i + 1)) a' w' → wpAny P .any l.toArray Q f (listed.setIfInBounds i true) a' w' := by
      intro a' w' h'
      refine ih (i + 1) f _ a' w' (by omega) (by omega) (by omega) (by omega) (by simpa using hs) ?_ h'
      intro j hj
      by_cases hij : i = j
      · subst hij
        rw [Array.getD_eq_getD_getElem?]; simp [hs, hj]
      · rw [getD_set_ne false hij, hl j hj]
        by_cases h1 : j < i
        · simp [h1]; omega
        · simp [h1]; omega
    split at h
    · rename_i hw
      rw [if_pos hw]
      exact h.imp (fun h => Oper.wp_mono (fun a' w' h' => hnext a' w' h') h) id
    · rename_i hw
      rw [if_neg hw]
      exact hnext _ _ h
variable {fin : Exit → Act → World → Prop} {k : List KI} {f : Fr} {w : World}
/-- A region whose first p operations come in whatever order and only let the world grow; behind them the others, in order. -/
theorem tw_drawnT {id : Nat} {l : List Oper} (p : Nat) (hm : P.follows .mixedOrders = true) (f0 : Fr) (S : Nat → Value → World → Prop) (hf : Fr.sub f0 f) (hok : drawOk n l = true) (ht : tailOk l p = true) (hfree0 : freeOk (l.take p) f0 = true)
    (hst : ∀ i v w w', S i v w → Keep [] w w' → S i v w')
    (hob : ObsP P n l f0 S w 0 (l.take p))
    (h : ∀ w', Keep [] w w' → ∀ vs : Nat → Value, (∀ i, i < p → hasDst l i = true → S i (vs i) w') → OW P fin n k l.toArray (l.drop p) (depFr l vs ((List.range p).filter (hasDst l)) ++ f0) w') :
    TW P fin n (.c (.region id l.toArray true) :: k) f w := by
  intro a ha
  simp only [KQ]
  have ha0 := ha.sub hf
  have hfree : ∀ i, i < p → i < l.length → hasDst l i = true → f0.get (dstOf l i) = none := by
    intro i hi hl hd
    have e1 : dstOf (l.take p) i = dstOf l i := by unfold dstOf; rw [List.getElem?_take, if_pos hi]
    have e2 : hasDst (l.take p) i = hasDst l i := by unfold hasDst; rw [List.getElem?_take, if_pos hi]
    rw [← e1]
    exact get_none_of_free (l := l.take p) (by rw [List.length_take]; omega) (by rw [e2]; exact hd) hfree0
  refine wp_region_any hm ?_
  have hpl : p ≤ l.length := by simp only [tailOk, Bool.and_eq_true] at ht; exact Nat.le_of_ble_eq_true ht.1
  have hobJ := hob.obsJ
  have hend : ∀ (fuel : Nat) (listed : Array Bool) (a : Act) (w' : World), listed.size = l.length → left l.length listed ≤ fuel → Kn n f0 a → Keep [] w w' → (∀ i, i < l.length → listed.getD i false = decide (i < p)) →
      (∀ i, listed.getD i false = true → i < l.length ∧ (hasDst l i = true → S i (a.tmps.getD (dstOf l i) undef) w')) → wpAny P .any l.toArray (KQ P fin k) fuel listed a w' := by
    intro fuel listed a w' hs hle hk hw hall hS
    refine wpAny_tail hok ht (l.length - p) p fuel listed a w' rfl hpl (Nat.le_refl _) ?_ hs hall ?_
    · refine Nat.le_trans ?_ hle
      unfold left
      have e1 : l.length - p = ((List.range' p (l.length - p)).countP fun i => !listed.getD i true) := by
        rw [List.countP_eq_length.2 (fun i hi => ?_)]
        · simp
        · rw [List.mem_range'_1] at hi
          rw [getD_lists hs (by omega) true false, hall i (by omega)]; simp; omega
      rw [e1]
      have e2 : List.range l.length = List.range p ++ List.range' p (l.length - p) := by
        have e3 := List.range'_append_1 (s := 0) (m := p) (n := l.length - p)
        rw [Nat.zero_add] at e3
        rw [List.range_eq_range', List.range_eq_range', e3]; congr 1; omega
      rw [e2, List.countP_append]; omega
    · refine h w' hw (fun i => a.tmps.getD (dstOf l i) undef) (fun i hi => (hS i (by rw [hall i (by omega)]; simpa using hi)).2) a (Kn.app ?_ hk)
      intro q hq
      obtain ⟨j, _, rfl⟩ := mem_depFr hq
      rfl
  have key : ∀ (fuel : Nat) (listed : Array Bool) (L : Nat → Bool) (a : Act) (w' : World), listed.size = l.length → (∀ i, L i = listed.getD i false) → left l.length listed ≤ fuel → Kn n f0 a → Keep [] w w' → (∀ i, p ≤ i → i < l.length → listed.getD i false = false) →
      (∀ i, listed.getD i false = true → i < l.length ∧ (hasDst l i = true → S i (a.tmps.getD (dstOf l i) undef) w')) → wpAny P .any l.toArray (KQ P fin k) fuel listed a w' := by
    intro fuel
    induction fuel with
    | zero =>
      intro listed L a w' hs hL hle hk hw hun hS
      refine hend 0 listed a w' hs hle hk hw (fun i hi => ?_) hS
      cases hc : listed.getD i false with
      | true => by_cases h1 : i < p
                · simp [h1]
                · rw [hun i (by omega) hi] at hc; cases hc
      | false =>
        exfalso
        have := left_set hi hs (by rw [getD_lists hs hi true false]; exact hc)
        omega
    | succ fuel ih =>
      intro listed L a w' hs hL hle hk hw hun hS
      by_cases hfull : ∀ i, i < p → listed.getD i false = true
      · refine hend (fuel + 1) listed a w' hs hle hk hw (fun i hi => ?_) hS
        by_cases h1 : i < p
        · rw [hfull i h1]; simp [h1]
        · rw [hun i (by omega) hi]; simp [h1]
      · obtain ⟨q, hq⟩ := Classical.not_forall.1 hfull
        obtain ⟨hq1, hq2⟩ := Classical.not_imp.1 hq
        have hq2 : listed.getD q false = false := eq_false_of_ne_true hq2
        refine ⟨fun hr => (by
          have := all_listed hok rfl hs hr q (by omega)
          rw [hq2] at this; cases this), fun i hi => ?_⟩
        obtain ⟨h0, o, ho, hedge⟩ := mem_ready.1 hi
        have ho' : l[i]? = some o := by simpa using ho
        have hlt : i < l.length := (List.getElem?_eq_some_iff.1 ho').1
        have hip : i < p := by
          rcases Nat.lt_or_ge i p with h1 | h1
          · exact h1
          · exfalso
            obtain ⟨e, he, h3, h4⟩ := tail_dep ht hlt h1 (Nat.lt_of_lt_of_le hq1 h1) ho'
            have := hedge e he h4
            rw [h3, hq2] at this; cases this
        have hobi := ObsJ.get hobJ i o (by rw [List.getElem?_take, if_pos hip]; exact ho')
        rw [Nat.zero_add] at hobi
        obtain ⟨deps, hdep, hobl⟩ := hobi
        have h1 := List.all_eq_true.1 hok i (List.mem_range.2 hlt)
        simp only [ho', Bool.and_eq_true] at h1
        obtain ⟨⟨hd2, _⟩, hd4⟩ := h1
        have hLi : L i = false := by rw [hL, getD_lists hs hlt false true]; exact h0
        have hdl : ∀ j, j ∈ deps → listed.getD j false = true := by
          intro j hj
          have h2 := List.all_eq_true.1 hdep j hj
          simp only [ho', Bool.and_eq_true] at h2
          obtain ⟨e, he, h3⟩ := List.any_eq_true.1 h2.2
          simp only [Bool.and_eq_true, beq_iff_eq] at h3
          have := hedge e (Array.mem_toList_iff.1 he) h3.2
          rwa [h3.1] at this
        have hdeps : ∀ j, j ∈ deps → S j (a.tmps.getD (dstOf l j) undef) w' := by
          intro j hj
          have h2 := List.all_eq_true.1 hdep j hj
          simp only [ho', Bool.and_eq_true] at h2
          exact (hS j (hdl j hj)).2 h2.1
        obtain ⟨c, hc1, hc2, hc3⟩ := hobl L w' hLi (fun j hj => by rw [hL]; exact hdl j hj) hw trivial (fun j => a.tmps.getD (dstOf l j) undef) hdeps
        have hkd : Kn n (depFr l (fun j => a.tmps.getD (dstOf l j) undef) deps ++ f0) a := Kn.app (fun p hp => by
          obtain ⟨j, _, rfl⟩ := mem_depFr hp; rfl) hk
        have hL' : ∀ j, updL L i j = (listed.setIfInBounds i true).getD j false := by
          intro j
          unfold updL
          by_cases hij : j = i
          · subst hij
            have : Nat.beq j j = true := Nat.beq_refl j
            rw [this, Array.getD_eq_getD_getElem?]
            simp [hs, hlt]
          · have : Nat.beq j i = false := by
              cases hb : Nat.beq j i with
              | false => rfl
              | true => exact absurd (Nat.eq_of_beq_eq_true hb) hij
            rw [this, getD_set_ne false (Ne.symm hij), cond_false, hL]
        have hleft := left_set hlt hs h0
        have hun' : ∀ j, p ≤ j → j < l.length → (listed.setIfInBounds i true).getD j false = false := fun j h1 h2 => by rw [getD_set_ne false (by omega)]; exact hun j h1 h2
        have hnext : ∀ v w2, Keep [] w' w2 → S i v w2 → wpAny P .any l.toArray (KQ P fin k) fuel (listed.setIfInBounds i true) (a.put o.dst v) w2 := by
          intro v w2 hk2 hSv
          cases hod : o.dst with
          | none =>
            refine ih _ (updL L i) _ _ (by simpa using hs) hL' (by omega) hk (hw.trans hk2) hun' ?_
            intro j hj
            by_cases hij : i = j
            · subst hij
              exact ⟨hlt, fun hd => by simp [hasDst, ho', hod] at hd⟩
            · rw [getD_set_ne false hij] at hj
              obtain ⟨hjl, hSj⟩ := hS j hj
              exact ⟨hjl, fun hd => hst _ _ _ _ (hSj hd) hk2⟩
          | some d =>
            have hdd : dstOf l i = d := by simp [dstOf, ho', hod]
            have hhd : hasDst l i = true := by simp [hasDst, ho', hod]
            rw [hdd] at hd2
            have hdn : d < n := blt_lt hd2
            refine ih _ (updL L i) _ _ (by simpa using hs) hL' (by omega) (hk.putOther (by rw [← hdd]; exact hfree i hip hlt hhd) v) (hw.trans hk2) hun' ?_
            intro j hj
            by_cases hij : i = j
            · subst hij
              refine ⟨hlt, fun _ => ?_⟩
              rw [hdd]
              have : (a.put (some d) v).tmps.getD d undef = v := by simp [Act.put, Array.getD_eq_getD_getElem?, hk.size, hdn]
              rw [this]; exact hSv
            · rw [getD_set_ne false hij] at hj
              obtain ⟨hjl, hSj⟩ := hS j hj
              refine ⟨hjl, fun hdj => ?_⟩
              have hne : d ≠ dstOf l j := by
                rw [hod] at hd4
                have h6 : ∀ x, x < l.length → (i = x ∨ ¬ dstOf l i = dstOf l x) ∨ hasDst l x = false := by simpa using hd4
                rcases h6 j hjl with (h7 | h7) | h7
                · exact absurd h7 hij
                · rwa [hdd] at h7
                · rw [hdj] at h7; cases h7
              have : (a.put (some d) v).tmps.getD (dstOf l j) undef = a.tmps.getD (dstOf l j) undef := by
                simp only [Act.put, Array.getD_eq_getD_getElem?]; rw [Array.getElem?_setIfInBounds_ne hne]
              rw [this]; exact hst _ _ _ _ (hSj hdj) hk2
        unfold wpOp
        rw [ho]
        simp only
        rw [hc1 a hkd]
        cases c with
        | true =>
          rw [if_pos rfl]
          exact .inl (hc2 rfl a hkd o.dst o.pos o.after o.guard _ _ (fun v w2 hv => hnext v w2 hv.1 hv.2.1))
        | false =>
          rw [if_neg (by simp)]
          exact hnext undef w' (Keep.refl _ _) (hc3 rfl).1
  refine key _ _ (fun _ => false) a _ (by simp) ?_ ?_ ha0 (keep_drew w) ?_ ?_
  · intro i
    rw [Array.getD_eq_getD_getElem?]
    rcases Nat.lt_or_ge i l.toArray.size with h' | h'
    · rw [Array.getElem?_eq_getElem (by simpa using h')]; simp
    · rw [Array.getElem?_eq_none (by simpa using h')]; rfl
  · unfold left
    have := List.countP_le_length (p := fun i => !(Array.replicate l.toArray.size false).getD i true) (l := List.range l.length)
    simpa using this
  · intro i _ hi
    rw [Array.getD_eq_getD_getElem?, Array.getElem?_eq_getElem (by simpa using hi)]; simp
  · intro i hi
    exfalso
    rw [Array.getD_eq_getD_getElem?] at hi
    rcases Nat.lt_or_ge i l.toArray.size with h' | h'
    · rw [Array.getElem?_eq_getElem (by simpa using h')] at hi; simp at hi
    · rw [Array.getElem?_eq_none (by simpa using h')] at hi; simp at hi

/-! ### Results that lie in memory -/
variable {fn : Func} {R : Value → World → Prop}
theorem run_loadAgg {T : TypeId} {zs cs : List Value} {s b g : Nat} {T' : TypeId} (hT : agB P T = true) (hs : Ty P T zs s b) (hb : Bk w g T' cs) (hl : cs.length = s) : (loadVar T ⟨g, 0, none⟩).run P w = .ok (.agg cs.toArray) w := by
  subst hl
  simp [loadVar, run_isAgg' hT, hs.sizeOf, run_loadCells_list w ⟨g, 0, none⟩ cs hb.row]
theorem run_loadOne {T : TypeId} {g : Nat} {T' : TypeId} {u : Value} {cs : List Value} (hT : scB P T = true) (hb : Bk w g T' cs) (hc : cs[0]? = some u) : (loadVar T ⟨g, 0, none⟩).run P w = .ok u w := by
  simp [loadVar, run_isAgg hT, hb.cell, hc]
theorem results_c {a : Act} {t : Nat} {T : TypeId} {b : Addr} {v : Value} (h : fn.results = #[.cell t T]) (h1 : a.tmps.getD t undef = .pointer (some b)) (h3 : (loadVar T b).run P w = .ok v w) : (results fn a.tmps).run P w = .ok v w := by
  have h1' : (a.tmps[t]?).getD undef = .pointer (some b) := by rw [← Array.getD_eq_getD_getElem?]; exact h1
  simp [results, h, h1, h1', asAddr, h3]
theorem results_ct {a : Act} {t u : Nat} {T : TypeId} {b : Addr} {v : Value} (h : fn.results = #[.cell t T, .tmp u]) (h1 : a.tmps.getD t undef = .pointer (some b)) (h3 : (loadVar T b).run P w = .ok v w) : (results fn a.tmps).run P w = .ok (.tuple #[v, a.tmps.getD u undef]) w := by
  have h1' : (a.tmps[t]?).getD undef = .pointer (some b) := by rw [← Array.getD_eq_getD_getElem?]; exact h1
  simp [results, h, h1, h1', asAddr, h3]
theorem results_tc {a : Act} {t u : Nat} {T : TypeId} {b : Addr} {v : Value} (h : fn.results = #[.tmp u, .cell t T]) (h1 : a.tmps.getD t undef = .pointer (some b)) (h3 : (loadVar T b).run P w = .ok v w) : (results fn a.tmps).run P w = .ok (.tuple #[a.tmps.getD u undef, v]) w := by
  have h1' : (a.tmps[t]?).getD undef = .pointer (some b) := by rw [← Array.getD_eq_getD_getElem?]; exact h1
  simp [results, h, h1, h1', asAddr, h3]
theorem results_ctt {a : Act} {t u s : Nat} {T : TypeId} {b : Addr} {v : Value} (h : fn.results = #[.cell t T, .tmp u, .tmp s]) (h1 : a.tmps.getD t undef = .pointer (some b)) (h3 : (loadVar T b).run P w = .ok v w) : (results fn a.tmps).run P w = .ok (.tuple #[v, a.tmps.getD u undef, a.tmps.getD s undef]) w := by
  have h1' : (a.tmps[t]?).getD undef = .pointer (some b) := by rw [← Array.getD_eq_getD_getElem?]; exact h1
  simp [results, h, h1, h1', asAddr, h3]
theorem tw_retc (hfin : ∀ a w, (a.defers = [] ∧ ∃ v, (results fn a.tmps).run P w = .ok v w ∧ R v w) → fin .ret a w ∧ fin .normal a w) {t : Nat} {T : TypeId} {b : Addr} {v : Value} (hres : fn.results = #[.cell t T]) (h1 : f.get t = some (.pointer (some b))) (h3 : (loadVar T b).run P w = .ok v w) (hR : R v w) :
    TW P fin n (.c .ret :: k) f w := fun a ha => wp_ret (by
  rw [KQ_ret]
  exact (hfin a w ⟨ha.defers, _, results_c hres (ha.get t _ h1) h3, hR⟩).1)
theorem tw_retct (hfin : ∀ a w, (a.defers = [] ∧ ∃ v, (results fn a.tmps).run P w = .ok v w ∧ R v w) → fin .ret a w ∧ fin .normal a w) {t u : Nat} {T : TypeId} {b : Addr} {v x : Value} (hres : fn.results = #[.cell t T, .tmp u]) (h1 : f.get t = some (.pointer (some b))) (h3 : (loadVar T b).run P w = .ok v w) (hx : f.get u = some x) (hR : R (.tuple #[v, x]) w) :
    TW P fin n (.c .ret :: k) f w := fun a ha => wp_ret (by
  rw [KQ_ret]
  refine (hfin a w ⟨ha.defers, _, results_ct hres (ha.get t _ h1) h3, ?_⟩).1
  rw [ha.get u x hx]; exact hR)
theorem tw_rettc (hfin : ∀ a w, (a.defers = [] ∧ ∃ v, (results fn a.tmps).run P w = .ok v w ∧ R v w) → fin .ret a w ∧ fin .normal a w) {t u : Nat} {T : TypeId} {b : Addr} {v x : Value} (hres : fn.results = #[.tmp u, .cell t T]) (h1 : f.get t = some (.pointer (some b))) (h3 : (loadVar T b).run P w = .ok v w) (hx : f.get u = some x) (hR : R (.tuple #[x, v]) w) :
    TW P fin n (.c .ret :: k) f w := fun a ha => wp_ret (by
  rw [KQ_ret]
  refine (hfin a w ⟨ha.defers, _, results_tc hres (ha.get t _ h1) h3, ?_⟩).1
  rw [ha.get u x hx]; exact hR)
theorem tw_retctt (hfin : ∀ a w, (a.defers = [] ∧ ∃ v, (results fn a.tmps).run P w = .ok v w ∧ R v w) → fin .ret a w ∧ fin .normal a w) {t u s : Nat} {T : TypeId} {b : Addr} {v x y : Value} (hres : fn.results = #[.cell t T, .tmp u, .tmp s]) (h1 : f.get t = some (.pointer (some b))) (h3 : (loadVar T b).run P w = .ok v w) (hx : f.get u = some x) (hy : f.get s = some y) (hR : R (.tuple #[v, x, y]) w) :
    TW P fin n (.c .ret :: k) f w := fun a ha => wp_ret (by
  rw [KQ_ret]
  refine (hfin a w ⟨ha.defers, _, results_ctt hres (ha.get t _ h1) h3, ?_⟩).1
  rw [ha.get u x hx, ha.get s y hy]; exact hR)
/-! ### Guarded operations that call -/
theorem ow_gds {ops : Array Oper} {l : List Oper} {ty : TypeId} (f1 : Fr) {op : Op} {d : Nat} {pos : String} {aft : Array Edge} {j : Nat} {want c : Bool} {v : Value} (hG : Grd n ops f j want c) (hs : UndF c f1 f) (hr : c = true → Does P n f1 w op ty (fun v' w' => v' = v ∧ w = w')) (hd : Nat.blt d n = true)
    (h : OW P fin n k ops l ((d, gv c v) :: f) w) : OW P fin n k ops (⟨some d, op, ty, pos, aft, some (j, want)⟩ :: l) f w := by
  refine ow_gd f1 hG hs hr hd fun v' w' h1 h2 => ?_
  cases c with
  | true => obtain ⟨rfl, rfl⟩ := h1 rfl; exact h
  | false => rw [h2 rfl]; exact h
theorem ow_gdk {ops : Array Oper} {l : List Oper} {ty : TypeId} (f1 : Fr) {op : Op} {d : Nat} {pos : String} {aft : Array Edge} {j : Nat} {want c : Bool} {v : Value} (hG : Grd n ops f j want c) (hs : UndF c f1 f) (hr : c = true → Does P n f1 w op ty (fun v' w' => v' = v ∧ Keep [] w w')) (hd : Nat.blt d n = true)
    (h : ∀ w', Keep [] w w' → OW P fin n k ops l ((d, gv c v) :: f) w') : OW P fin n k ops (⟨some d, op, ty, pos, aft, some (j, want)⟩ :: l) f w := by
  refine ow_gd f1 hG hs hr hd fun v' w' h1 h2 => ?_
  cases c with
  | true => obtain ⟨rfl, h3⟩ := h1 rfl; exact h w' h3
  | false => rw [h2 rfl]; exact h w (Keep.refl _ _)
/-! ### A slice of slices of bytes -/
def SlL (w : World) (lo : Nat) (T : TypeId) (v : Value) (ls : List (List UInt8)) : Prop := ∃ us, us.length = ls.length ∧ RdL w us ls ∧ Own w lo T 1 v ls.length us
theorem SlL.keep0 {w w' : World} {lo : Nat} {T : TypeId} {v : Value} {ls : List (List UInt8)} (h : SlL w lo T v ls) (k : Keep [] w w') : SlL w' lo T v ls := by
  obtain ⟨us, h1, h2, h3⟩ := h; exact ⟨us, h1, h2.keep0 k, h3.keep0 k⟩
theorem SlL.lo {w : World} {lo lo' : Nat} {T : TypeId} {v : Value} {ls : List (List UInt8)} (h : SlL w lo T v ls) (hl : lo' ≤ lo) : SlL w lo' T v ls := by
  obtain ⟨us, h1, h2, h3⟩ := h; exact ⟨us, h1, h2, h3.lo hl⟩
theorem rdL_len {w : World} {us : List Value} {ls : List (List UInt8)} (h : RdL w us ls) : us.length = ls.length := h.1
theorem flat_one : ∀ {us : List Value}, (∀ u ∈ us, u.cells = #[u]) → us.flatMap (fun v => v.cells.toList) = us
  | [], _ => rfl
  | u :: r, h => by
    rw [List.flatMap_cons, h u (by simp), flat_one (fun v hv => h v (by simp [hv]))]; rfl
theorem RdL.one {w : World} {us : List Value} {ls : List (List UInt8)} (h : RdL w us ls) : ∀ u ∈ us, u.cells = #[u] := by
  intro u hu
  obtain ⟨i, hi, rfl⟩ := List.getElem_of_mem hu
  obtain ⟨u', h1, h2⟩ := h.2 i (ls[i]'(by rw [← h.1]; exact hi)) (List.getElem?_eq_getElem _)
  rw [List.getElem?_eq_getElem hi] at h1
  cases h1
  exact h2.cells
theorem d_bsL {t e ty : TypeId} {m by_ : Nat} {parts : Array (Nat × Operand)} {xs : List Operand} {us zs : List Value} {ls : List (List UInt8)} (ht : P.underlying t = some (.slice e)) (he : Ty P e zs 1 by_)
    (hp : parts.toList = enum 0 xs) (hx : f.evs xs = some us) (hl : RdL w us ls) (hm : ls.length = m) (hlim : Nat.ble m 16777216 = true) :
    Does P n f w (.buildSlice t m parts) ty (fun v w' => SlL w' w.heap.size e v ls ∧ Keep [] w w') :=
  (d_bs ht he (by decide) hp hx (by rw [hl.1, hm]) (fun v hv => by rw [hl.one v hv]; rfl) (by have := Nat.le_of_ble_eq_true hlim; omega)).mono fun v w' ⟨o, _, _, k, _⟩ =>
    ⟨⟨us, hl.1, hl.keep0 k, by rw [flat_one hl.one] at o; rw [hm]; exact o⟩, k⟩
theorem SlL.vblk {w : World} {lo : Nat} {T : TypeId} {v : Value} {ls : List (List UInt8)} (h : SlL w lo T v ls) : ∀ x, x ∈ Eng.vblk v → lo ≤ x ∧ x < w.heap.size := by
  obtain ⟨us, h1, h2, h3⟩ := h; exact h3.blk
theorem u64_in {i : Int} (h : 0 ≤ i ∧ i < 18446744073709551616) : IntKind.u64.wrap i = i := by
  have : IntKind.u64.wrap i = i % 18446744073709551616 := by simp [IntKind.wrap, IntKind.bits, IntKind.signed]
  rw [this]; omega
theorem g_cvu {s t ty : TypeId} {x : Operand} {k : IntKind} {i : Int} (hs : (P.underlying s).isSome = true) (ht : P.underlying t = some (.int .u64)) (hx : f.ev x = some (.int k i)) (h : 0 ≤ i ∧ i ≤ 9223372036854775807) :
    Gives P n f w (.convert s t x) ty (.int .u64 i) w := by
  have := g_cv (n := n) (w := w) (ty := ty) hs ht hx
  rwa [u64_in ⟨h.1, by omega⟩] at this
/-- An own slice of one byte that was worked out. -/
theorem own_byte {lo : Nat} {e : TypeId} {v : Value} {j : Int} {b : UInt8} (h : Own w lo e 1 v 1 [.int .u8 j]) (hj : j = (b.toNat : Int)) : Own w lo e 1 v 1 (bv [b]) := by subst hj; exact h
/-! ### A slice that was written out empty, and what is appended to it: nothing that was there turns -/
theorem d_bs0 {t e ty : TypeId} {s by_ : Nat} {zs : List Value} {parts : Array (Nat × Operand)} (ht : P.underlying t = some (.slice e)) (he : Ty P e zs s by_) (hp : parts = #[]) :
    Does P n f w (.buildSlice t 0 parts) ty (fun v' w' => ∃ g, v' = .slice (some ⟨g, 0, none⟩) 0 0 ∧ g = w.heap.size ∧ Bk w' g e [] ∧ Keep [] w w') := by
  intro a ha dst pos aft gd K Q hK
  subst hp
  have hr : (execOp a.eval ⟨dst, .buildSlice t 0 #[], ty, pos, aft, gd⟩).run P w = .ok (.value (.slice (some ⟨w.heap.size, 0, none⟩) 0 0)) (w.alloc (.cells #[] e)) := by
    simp only [execOp, Instr.buildSlice, Sem.run_bind, run_underlying ht, Result.andThen_ok, he.sizeOf, Nat.zero_mul, if_true, Sem.run_pure]
    have hz9 : (Array.map (fun _ => (default : Value)) (Array.range 0)) = #[] := by simp
    simp
    rw [hz9, show Instr.fill (fun i => some (i * s, s)) #[] [] = some #[] from rfl]
    simp [newRow]
  unfold Oper.wp
  rw [hr]
  exact hK _ _ ⟨_, rfl, rfl, bk_alloc _ _ _, keep_alloc _ _⟩
theorem d_app0 {t e : TypeId} {ty : TypeId} {x y : Operand} {s m' by_ g lo : Nat} {u : Value} {ys zs : List Value} (ht : P.underlying t = some (.slice e)) (he : Ty P e zs s by_) (hs0 : Nat.blt 0 s = true) (hzs : zs.length = s)
    (hx : f.ev x = some (.slice (some ⟨g, 0, none⟩) 0 0)) (hg : Bk w g e []) (hlo : lo ≤ g) (hy : f.ev y = some u) (hr : Rd w s u m' ys) (hb : m' * by_ ≤ 140737488355328 ∧ m' ≤ 9223372036854775807) :
    Does P n f w (.call { callee := .builtin .append, args := #[x, y], argTypes := #[t, t] }) ty (fun v' w' => Own w' lo e s v' m' ys ∧ Keep [] w w') := by
  have hs0 := blt_lt hs0
  intro a ha dst pos aft gd K Q hK
  have key : ∃ v' w', (Builtin.append_ #[t, t] ty #[.slice (some ⟨g, 0, none⟩) 0 0, u]).run P w = .ok v' w' ∧ Own w' lo e s v' m' ys ∧ Keep [] w w' := by
    obtain ⟨ti, z, hi, hz, hzc, hsz, hby⟩ := he.parts
    subst hsz hby
    have h63 : (((0 + m' : Nat)) : Int) ≤ 9223372036854775807 := by have := hb.2; omega
    have hml : 0 + m' ≤ maxLen := le_maxLen h63
    have hzl : z.cells.size = ti.size := by rw [← Array.length_toList, hzc, hzs]
    have hgl := hg.lt
    obtain ⟨A', c', rfl, h2, h3, h4, h5, h6⟩ := hr
    by_cases hm0 : m' = 0
    · subst hm0
      have hys : ys = [] := List.eq_nil_of_length_eq_zero (by rw [h4, Nat.zero_mul])
      subst hys
      exact ⟨_, w, run_append_same t ty e ti ht hi _ 0 0 (Nat.le_refl _) A' c', ⟨by simp, .inr ⟨g, 0, #[], rfl, hlo, hg, Nat.le_refl _, Nat.zero_le _, by simp, by simp⟩⟩, Keep.refl _ _⟩
    · cases A' with
      | none => have := h5 rfl; omega
      | some a' =>
        have hrow := h6 a' rfl
        have hrun := run_append_grow (P := P) w t ty e ti z ht hi hz ⟨g, 0, none⟩ 0 0 [] (by simp) (by intro j u hj; simp at hj) a' m' c' ys h4 hrow (by omega) h63 (nsc_fits (by omega) (by have := hb.1; rwa [Nat.zero_add]))
        refine ⟨_, _, hrun, ⟨by rw [h4], .inr ⟨w.heap.size, grownCap w (0 + m') 0 e, _, by rw [Nat.zero_add], by omega, bk_alloc' w.drew e _, ?_, ?_, ?_, ?_⟩⟩, (keep_drew w).trans (keep_alloc _ _)⟩
        · have := grownCap_ge w (0 + m') 0 e; omega
        · exact grownCap_le_maxLen w (0 + m') 0 e hml
        · have := grownCap_ge w (0 + m') 0 e
          have e1 : grownCap w (0 + m') 0 e = m' + (grownCap w (0 + m') 0 e - (0 + m')) := by omega
          rw [Array.size_append, Array.size_append, List.size_toArray, List.size_toArray, h4, List.length_nil, size_zeroCells, hzl]
          rw [Nat.zero_add, ← Nat.add_mul]; congr 1; omega
        · rw [← h4, Array.toList_append, List.take_append_of_le_length (by simp)]; simp
  obtain ⟨v', w', hrun, h2, h3⟩ := key
  have hr : (execOp a.eval ⟨dst, .call { callee := .builtin .append, args := #[x, y], argTypes := #[t, t] }, ty, pos, aft, gd⟩).run P w = .ok (.value v') w' := by
    simp [execOp, resolve, invoke, builtin, ha.ev hx, ha.ev hy, hrun]
  unfold Oper.wp
  rw [hr]
  exact hK _ _ ⟨h2, h3⟩
end
end Go.Eng
