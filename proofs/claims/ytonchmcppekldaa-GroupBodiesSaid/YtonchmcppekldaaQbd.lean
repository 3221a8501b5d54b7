/- Contracts and laws, part 4 of 7: what each function of the program and of the reference computes, shown once. -/
import Derived.Test.YtonchmcppekldaaQbc
set_option maxRecDepth 100000
set_option maxHeartbeats 4000000
set_option linter.unusedVariables false
set_option linter.unusedSimpArgs false
namespace Go.Eng
open Go
section
variable {P : Program} {n : NN} {fin : Exit → Act → World → Prop} {k : List KI} {f : Fr} {w : World}
theorem fe {id : Nat} {l : List Oper} (p : Nat) (hm : P.follows .mixedOrders = true) (f0 : Fr) (S : Nat → Value → World → Prop) (hf : Fr.sub f0 f) (hok : drawOk n l = true) (ht : dG l p = true) (hfree0 : freeOk (l.take p) f0 = true)
   (hst : ∀ i v w w', S i v w → Keep [] w w' → S i v w')
   (hob : ObsP P n l f0 S w 0 (l.take p))
   (h : ∀ w', Keep [] w w' → ∀ vs : Nat → Value, (∀ i, i < p → hasDst l i = true → S i (vs i) w') → OW P fin n k l.toArray (l.drop p) (depFr l vs ((List.range p).filter (hasDst l)) ++ f0) w') :
   TW P fin n (.c (.region id l.toArray true) :: k) f w := by
 intro a ha
 simp only [KQ]
 have ha0 := ha.sub hf
 have hfree : ∀ i, i < p → i < l.length → hasDst l i = true → f0.get (dstOf l i) = none := by
   intro i hi hl hd
   have e1 : dstOf (l.take p) i = dstOf l i := by unfold dstOf; rw [List.getElem?_take, if_pos hi]
   have e2 : hasDst (l.take p) i = hasDst l i := by unfold hasDst; rw [List.getElem?_take, if_pos hi]
   rw [← e1]
   exact bu (l := l.take p) (by rw [List.length_take]; omega) (by rw [e2]; exact hd) hfree0
 refine wp_region_any hm ?_
 have hpl : p ≤ l.length := by simp only [dG, Bool.and_eq_true] at ht; exact Nat.le_of_ble_eq_true ht.1.1
 have hobJ := hob.obsJ
 have hend : ∀ (fuel : Nat) (listed : Array Bool) (a : Act) (w' : World), listed.size = l.length → left l.length listed ≤ fuel → Kn n f0 a → Keep [] w w' → (∀ i, i < l.length → listed.getD i false = decide (i < p)) →
     (∀ i, listed.getD i false = true → i < l.length ∧ (hasDst l i = true → S i (a.tmps.getD (dstOf l i) undef) w')) → wpAny P .any l.toArray (KQ P fin k) fuel listed a w' := by
   intro fuel listed a w' hs hle hk hw hall hS
   refine du hok ht (l.length - p) p fuel listed a w' rfl hpl (Nat.le_refl _) ?_ hs hall ?_
   · refine Nat.le_trans ?_ hle
     unfold left
     have e1 : l.length - p = ((List.range' p (l.length - p)).countP fun i => !listed.getD i true) := by
       rw [List.countP_eq_length.2 (fun i hi => ?_)]
       · simp
       · rw [List.mem_range'_1] at hi
         rw [bR hs (by omega) true false, hall i (by omega)]; simp; omega
     rw [e1]
     have e2 : List.range l.length = List.range p ++ List.range' p (l.length - p) := by
       have e3 := List.range'_append_1 (s := 0) (m := p) (n := l.length - p)
       rw [Nat.zero_add] at e3
       rw [List.range_eq_range', List.range_eq_range', e3]; congr 1; omega
     rw [e2, List.countP_append]; omega
   · refine h w' hw (fun i => a.tmps.getD (dstOf l i) undef) (fun i hi => (hS i (by rw [hall i (by omega)]; simpa using hi)).2) a (Kn.app ?_ hk)
     intro q hq
     obtain ⟨j, _, rfl⟩ := cR hq
     rfl
 have key : ∀ (fuel : Nat) (listed : Array Bool) (L : Nat → Bool) (a : Act) (w' : World), listed.size = l.length → (∀ i, L i = listed.getD i false) → left l.length listed ≤ fuel → Kn n f0 a → Keep [] w w' → (∀ i, p ≤ i → i < l.length → listed.getD i false = false) → (∀ m j, listed.getD m false = true → depB l m j = true → listed.getD j false = true) →
     (∀ i, listed.getD i false = true → i < l.length ∧ (hasDst l i = true → S i (a.tmps.getD (dstOf l i) undef) w')) → wpAny P .any l.toArray (KQ P fin k) fuel listed a w' := by
   intro fuel
   induction fuel with
   | zero =>
     intro listed L a w' hs hL hle hk hw hun hcl hS
     refine hend 0 listed a w' hs hle hk hw (fun i hi => ?_) hS
     cases hc : listed.getD i false with
     | true => by_cases h1 : i < p
               · simp [h1]
               · rw [hun i (by omega) hi] at hc; cases hc
     | false =>
       exfalso
       have := cc hi hs (by rw [bR hs hi true false]; exact hc)
       omega
   | succ fuel ih =>
     intro listed L a w' hs hL hle hk hw hun hcl hS
     by_cases hfull : ∀ i, i < p → listed.getD i false = true
     · refine hend (fuel + 1) listed a w' hs hle hk hw (fun i hi => ?_) hS
       by_cases h1 : i < p
       · rw [hfull i h1]; simp [h1]
       · rw [hun i (by omega) hi]; simp [h1]
     · obtain ⟨q, hq⟩ := Classical.not_forall.1 hfull
       obtain ⟨hq1, hq2⟩ := Classical.not_imp.1 hq
       have hq2 : listed.getD q false = false := eq_false_of_ne_true hq2
       refine ⟨fun hr => (by
         have := dP hok rfl hs hr q (by omega)
         rw [hq2] at this; cases this), fun i hi => ?_⟩
       obtain ⟨h0, o, ho, hedge⟩ := mem_ready.1 hi
       have ho' : l[i]? = some o := by simpa using ho
       have hlt : i < l.length := (List.getElem?_eq_some_iff.1 ho').1
       have hip : i < p := by
         rcases Nat.lt_or_ge i p with h1 | h1
         · exact h1
         · exfalso
           have hdepl : ∀ j, depB l i j = true → listed.getD j false = true := by
             intro j hd
             obtain ⟨o', ho2, e, he, h3, h4⟩ := fP hd
             rw [ho'] at ho2
             obtain rfl := Option.some.inj ho2
             have := hedge e he h4
             rwa [h3] at this
           rcases Nat.lt_or_ge p i with h8 | h8
           · have := hdepl _ (eZ ht hlt h8)
             rw [hun (i - 1) (by omega) (by omega)] at this; cases this
           · have hpi : i = p := by omega
             have := gP (S := fun j => listed.getD j false = true) ht (by omega) (fun m j hm hd => hm.elim (fun e => hdepl j (by rw [hpi, ← e]; exact hd)) (fun hl => hcl m j hl hd)) _ q hq1 rfl
             rw [hq2] at this; cases this
       have hobi := ObsJ.get hobJ i o (by rw [List.getElem?_take, if_pos hip]; exact ho')
       rw [Nat.zero_add] at hobi
       obtain ⟨deps, hdep, hobl⟩ := hobi
       have h1 := List.all_eq_true.1 hok i (List.mem_range.2 hlt)
       simp only [ho', Bool.and_eq_true] at h1
       obtain ⟨⟨hd2, _⟩, hd4⟩ := h1
       have hLi : L i = false := by rw [hL, bR hs hlt false true]; exact h0
       have hdl : ∀ j, j ∈ deps → listed.getD j false = true := by
         intro j hj
         have h2 := List.all_eq_true.1 hdep j hj
         simp only [ho', Bool.and_eq_true] at h2
         obtain ⟨e, he, h3⟩ := List.any_eq_true.1 h2.2
         simp only [Bool.and_eq_true, beq_iff_eq] at h3
         have := hedge e (Array.mem_toList_iff.1 he) h3.2
         rwa [h3.1] at this
       have hdeps : ∀ j, j ∈ deps → S j (a.tmps.getD (dstOf l j) undef) w' := by
         intro j hj
         have h2 := List.all_eq_true.1 hdep j hj
         simp only [ho', Bool.and_eq_true] at h2
         exact (hS j (hdl j hj)).2 h2.1
       obtain ⟨c, hc1, hc2, hc3⟩ := hobl L w' hLi (fun j hj => by rw [hL]; exact hdl j hj) hw trivial (fun j => a.tmps.getD (dstOf l j) undef) hdeps
       have hkd : Kn n (depFr l (fun j => a.tmps.getD (dstOf l j) undef) deps ++ f0) a := Kn.app (fun p hp => by
         obtain ⟨j, _, rfl⟩ := cR hp; rfl) hk
       have hL' : ∀ j, updL L i j = (listed.setIfInBounds i true).getD j false := by
         intro j
         unfold updL
         by_cases hij : j = i
         · subst hij
           have : Nat.beq j j = true := Nat.beq_refl j
           rw [this, Array.getD_eq_getD_getElem?]
           simp [hs, hlt]
         · have : Nat.beq j i = false := by
             cases hb : Nat.beq j i with
             | false => rfl
             | true => exact absurd (Nat.eq_of_beq_eq_true hb) hij
           rw [this, getD_set_ne false (Ne.symm hij), cond_false, hL]
       have hleft := cc hlt hs h0
       have hun' : ∀ j, p ≤ j → j < l.length → (listed.setIfInBounds i true).getD j false = false := fun j h1 h2 => by rw [getD_set_ne false (by omega)]; exact hun j h1 h2
       have hcl' : ∀ m j, (listed.setIfInBounds i true).getD m false = true → depB l m j = true → (listed.setIfInBounds i true).getD j false = true := by
         intro m j hm hd
         have hone : (listed.setIfInBounds i true).getD i false = true := by rw [Array.getD_eq_getD_getElem?]; simp [hs, hlt]
         have hup : listed.getD j false = true → (listed.setIfInBounds i true).getD j false = true := by
           intro h
           by_cases hij : i = j
           · subst hij; exact hone
           · rw [getD_set_ne false hij]; exact h
         by_cases him : i = m
         · subst him
           obtain ⟨o', ho2, e, he, h3, h4⟩ := fP hd
           rw [ho'] at ho2
           obtain rfl := Option.some.inj ho2
           have := hedge e he h4
           rw [h3] at this
           exact hup this
         · rw [getD_set_ne false him] at hm
           exact hup (hcl m j hm hd)
       have hnext : ∀ v w2, Keep [] w' w2 → S i v w2 → wpAny P .any l.toArray (KQ P fin k) fuel (listed.setIfInBounds i true) (a.put o.dst v) w2 := by
         intro v w2 hk2 hSv
         cases hod : o.dst with
         | none =>
           refine ih _ (updL L i) _ _ (by simpa using hs) hL' (by omega) hk (hw.trans hk2) hun' hcl' ?_
           intro j hj
           by_cases hij : i = j
           · subst hij
             exact ⟨hlt, fun hd => by simp [hasDst, ho', hod] at hd⟩
           · rw [getD_set_ne false hij] at hj
             obtain ⟨hjl, hSj⟩ := hS j hj
             exact ⟨hjl, fun hd => hst _ _ _ _ (hSj hd) hk2⟩
         | some d =>
           have hdd : dstOf l i = d := by simp [dstOf, ho', hod]
           have hhd : hasDst l i = true := by simp [hasDst, ho', hod]
           rw [hdd] at hd2
           have hdn : d < n := bp hd2
           refine ih _ (updL L i) _ _ (by simpa using hs) hL' (by omega) (hk.putOther (by rw [← hdd]; exact hfree i hip hlt hhd) v) (hw.trans hk2) hun' hcl' ?_
           intro j hj
           by_cases hij : i = j
           · subst hij
             refine ⟨hlt, fun _ => ?_⟩
             rw [hdd]
             have : (a.put (some d) v).tmps.getD d undef = v := by simp [Act.put, Array.getD_eq_getD_getElem?, hk.size, hdn]
             rw [this]; exact hSv
           · rw [getD_set_ne false hij] at hj
             obtain ⟨hjl, hSj⟩ := hS j hj
             refine ⟨hjl, fun hdj => ?_⟩
             have hne : d ≠ dstOf l j := by
               rw [hod] at hd4
               have h6 : ∀ x, x < l.length → (i = x ∨ ¬ dstOf l i = dstOf l x) ∨ hasDst l x = false := by simpa using hd4
               rcases h6 j hjl with (h7 | h7) | h7
               · exact absurd h7 hij
               · rwa [hdd] at h7
               · rw [hdj] at h7; cases h7
             have : (a.put (some d) v).tmps.getD (dstOf l j) undef = a.tmps.getD (dstOf l j) undef := by
               simp only [Act.put, Array.getD_eq_getD_getElem?]; rw [Array.getElem?_setIfInBounds_ne hne]
             rw [this]; exact hst _ _ _ _ (hSj hdj) hk2
       unfold wpOp
       rw [ho]
       simp only
       rw [hc1 a hkd]
       cases c with
       | true =>
         rw [if_pos rfl]
         exact .inl (hc2 rfl a hkd o.dst o.pos o.after o.guard _ _ (fun v w2 hv => hnext v w2 hv.1 hv.2.1))
       | false =>
         rw [if_neg (by simp)]
         exact hnext undef w' (Keep.refl _ _) (hc3 rfl).1
 refine key _ _ (fun _ => false) a _ (by simp) ?_ ?_ ha0 (bt w) ?_ ?_ ?_
 · intro i
   rw [Array.getD_eq_getD_getElem?]
   rcases Nat.lt_or_ge i l.toArray.size with h' | h'
   · rw [Array.getElem?_eq_getElem (by simpa using h')]; simp
   · rw [Array.getElem?_eq_none (by simpa using h')]; rfl
 · unfold left
   have := List.countP_le_length (p := fun i => !(Array.replicate l.toArray.size false).getD i true) (l := List.range l.length)
   simpa using this
 · intro i _ hi
   rw [Array.getD_eq_getD_getElem?, Array.getElem?_eq_getElem (by simpa using hi)]; simp
 · intro i j hi
   exfalso
   rw [Array.getD_eq_getD_getElem?] at hi
   rcases Nat.lt_or_ge i l.toArray.size with h' | h'
   · rw [Array.getElem?_eq_getElem (by simpa using h')] at hi; simp at hi
   · rw [Array.getElem?_eq_none (by simpa using h')] at hi; simp at hi
 · intro i hi
   exfalso
   rw [Array.getD_eq_getD_getElem?] at hi
   rcases Nat.lt_or_ge i l.toArray.size with h' | h'
   · rw [Array.getElem?_eq_getElem (by simpa using h')] at hi; simp at hi
   · rw [Array.getElem?_eq_none (by simpa using h')] at hi; simp at hi
end
theorem iJ {w : World} {lo : Nat} {e : TypeId} {v : Value} {j : Int} {b : UInt8} (h : Own w lo e 1 v 2 [.int .u8 0, .int .u8 j]) (hj : j = (b.toNat : Int)) : Own w lo e 1 v 2 (bv [0, b]) := by subst hj; exact h
end Go.Eng
namespace Go.Proofs.Ytonchmcppekldaa.W
open Go Go.Eng Go.Byt
theorem be_1 (n : Int) : be n 1 = [byteAt n 0] := by simp [be]
theorem mX (e s n h g : Value) (l : Lf) (w : World) (he : RdB w e l.enc) (hs : RdB w s l.sig) (hn : RdB w n l.name) (hh : RdB w h l.hash) (hg : RdB w g l.sg) (hok : leafOk l = true) : Rets Try.prog 77 [.agg [e, s, n, .int .i64 l.src, h, g].toArray] w (fun u w' => OwnB w' w.heap.size u (leafBare l) ∧ Keep [] w w') := by
  have hB : Keep [] w w := Keep.refl _ _
  obtain ⟨n1, n2, n3, n4, n5, n6, n7⟩ := cZ hok
  obtain ⟨e3, m3⟩ := joinB_3 n1 n2 n3
  obtain ⟨e4, m4⟩ := gt n4
  have m5 : [byteAt l.src 0].length = 1 := rfl
  refine ai Try.func77 rfl (by decide) Try.ntmps77 rfl (fun fin _ hfin => a5 (aZ (ah (bc (cs := [e, s, n, .int .i64 l.src, h, g]) rfl rfl) rfl ?_)))
  rintro _ w1 ⟨b1, rfl, eb1, hb1, k1, z1⟩
  have ge_b1 : w.heap.size ≤ b1 := by have := hB.size; omega
  replace hB := hB.trans k1
  clear eb1 z1
  refine oga rfl rfl (a6 (a5 ?_))
  have ltb1 := hb1.lt
  refine fe 12 mixed [(1, _), (0, _), (2, _)] (fun jj v W => match jj with | 0 => v = .pointer (some ⟨b1, 0 + 0, none⟩) | 1 => v = e | 2 => v = .pointer (some ⟨b1, 0 + 1, none⟩) | 3 => v = s | 4 => v = .pointer (some ⟨b1, 0 + 2, none⟩) | 5 => v = n | 6 => SlL W w1.heap.size 22 v [l.enc, l.sig, l.name] | 7 => OwnB W w1.heap.size v (joinB [l.enc, l.sig, l.name]) | 8 => v = .pointer (some ⟨b1, 0 + 3, none⟩) | 9 => v = .int .i64 l.src | 10 => v = .int .u8 (IntKind.u8.wrap l.src) | 11 => OwnB W w1.heap.size v ([byteAt l.src 0]) | _ => True) ⟨rfl, rfl, rfl, trivial⟩ (by decide) (by decide) rfl ?_ ?_ ?_
  · intro jj v W W' h k
    match jj, h with
    | 0, h => exact h
    | 1, h => exact h
    | 2, h => exact h
    | 3, h => exact h
    | 4, h => exact h
    | 5, h => exact h
    | 6, h => exact h.oC k
    | 7, h => exact h.oC k
    | 8, h => exact h
    | 9, h => exact h
    | 10, h => exact h
    | 11, h => exact h.oC k
    | _ + 12, _ => trivial
  · refine ⟨?_, ?_, ?_, ?_, ?_, ?_, ?_, ?_, ?_, ?_, ?_, ?_, trivial⟩
    · refine ⟨[], rfl, ?_⟩; rintro W1 hk vs hd
      obtain ⟨hB, hb1⟩ := bX hk hB hb1
      refine ⟨true, fun a _ => rfl, fun _ => (aa [(1, _)] ⟨rfl, trivial⟩ ?_), fun h => by cases h⟩
      refine (Gives.does (ak aC rfl am (by decide) rfl)).mono ?_
      rintro v W2 ⟨rfl, rfl⟩
      exact ⟨Keep.refl _ _, rfl⟩
    · refine ⟨[0], rfl, ?_⟩; rintro W1 hk vs hd
      have d0 : (vs 0) = .pointer (some ⟨b1, 0 + 0, none⟩) := hd 0 (by decide)
      obtain ⟨hB, hb1⟩ := bX hk hB hb1
      refine ⟨true, fun a _ => rfl, fun _ => (aa [(4, .pointer (some ⟨b1, 0 + 0, none⟩))] ⟨congrArg some d0, trivial⟩ ?_), fun h => by cases h⟩
      refine (Gives.does (ae aw rfl hb1 rfl)).mono ?_
      rintro v W2 ⟨rfl, rfl⟩
      exact ⟨Keep.refl _ _, rfl⟩
    · refine ⟨[], rfl, ?_⟩; rintro W1 hk vs hd
      obtain ⟨hB, hb1⟩ := bX hk hB hb1
      refine ⟨true, fun a _ => rfl, fun _ => (aa [(1, _)] ⟨rfl, trivial⟩ ?_), fun h => by cases h⟩
      refine (Gives.does (ak aC rfl am (by decide) rfl)).mono ?_
      rintro v W2 ⟨rfl, rfl⟩
      exact ⟨Keep.refl _ _, rfl⟩
    · refine ⟨[2], rfl, ?_⟩; rintro W1 hk vs hd
      have d2 : (vs 2) = .pointer (some ⟨b1, 0 + 1, none⟩) := hd 2 (by decide)
      obtain ⟨hB, hb1⟩ := bX hk hB hb1
      refine ⟨true, fun a _ => rfl, fun _ => (aa [(6, .pointer (some ⟨b1, 0 + 1, none⟩))] ⟨congrArg some d2, trivial⟩ ?_), fun h => by cases h⟩
      refine (Gives.does (ae aw rfl hb1 rfl)).mono ?_
      rintro v W2 ⟨rfl, rfl⟩
      exact ⟨Keep.refl _ _, rfl⟩
    · refine ⟨[], rfl, ?_⟩; rintro W1 hk vs hd
      obtain ⟨hB, hb1⟩ := bX hk hB hb1
      refine ⟨true, fun a _ => rfl, fun _ => (aa [(1, _)] ⟨rfl, trivial⟩ ?_), fun h => by cases h⟩
      refine (Gives.does (ak aC rfl am (by decide) rfl)).mono ?_
      rintro v W2 ⟨rfl, rfl⟩
      exact ⟨Keep.refl _ _, rfl⟩
    · refine ⟨[4], rfl, ?_⟩; rintro W1 hk vs hd
      have d4 : (vs 4) = .pointer (some ⟨b1, 0 + 2, none⟩) := hd 4 (by decide)
      obtain ⟨hB, hb1⟩ := bX hk hB hb1
      refine ⟨true, fun a _ => rfl, fun _ => (aa [(8, .pointer (some ⟨b1, 0 + 2, none⟩))] ⟨congrArg some d4, trivial⟩ ?_), fun h => by cases h⟩
      refine (Gives.does (ae aw rfl hb1 rfl)).mono ?_
      rintro v W2 ⟨rfl, rfl⟩
      exact ⟨Keep.refl _ _, rfl⟩
    · refine ⟨[1, 3, 5], rfl, ?_⟩; rintro W1 hk vs hd
      have d1 : (vs 1) = e := hd 1 (by decide)
      have d3 : (vs 3) = s := hd 3 (by decide)
      have d5 : (vs 5) = n := hd 5 (by decide)
      obtain ⟨hB, hb1⟩ := bX hk hB hb1
      refine ⟨true, fun a _ => rfl, fun _ => (aa [(5, e), (7, s), (9, n)] ⟨congrArg some d1, congrArg some d3, congrArg some d5, trivial⟩ ?_), fun h => by cases h⟩
      refine (cf (m := 3) (ls := [l.enc, l.sig, l.name]) (xs := [.tmp 5, .tmp 7, .tmp 9]) (us := [_, _, _]) aJ am rfl rfl (bL (by first | exact Rd.nil _ _ | exact (by first | assumption | exact Own.rd (by assumption) | exact Rd.oC (by assumption) hB | exact Own.rd (Own.oC (by assumption) hB))) (bL (by first | exact Rd.nil _ _ | exact (by first | assumption | exact Own.rd (by assumption) | exact Rd.oC (by assumption) hB | exact Own.rd (Own.oC (by assumption) hB))) (bL (by first | exact Rd.nil _ _ | exact (by first | assumption | exact Own.rd (by assumption) | exact Rd.oC (by assumption) hB | exact Own.rd (Own.oC (by assumption) hB))) (bb _)))) rfl rfl).mono ?_
      rintro v W2 ⟨o1, k1⟩; exact ⟨k1, o1.lo hk.size⟩
    · refine ⟨[6], rfl, ?_⟩; rintro W1 hk vs hd
      have d6 : SlL W1 w1.heap.size 22 (vs 6) [l.enc, l.sig, l.name] := hd 6 (by decide)
      obtain ⟨hB, hb1⟩ := bX hk hB hb1
      refine ⟨true, fun a _ => rfl, fun _ => (aa [(10, vs 6)] ⟨rfl, trivial⟩ ?_), fun h => by cases h⟩
      refine (ab (vs := [_]) rfl (cH _ _ _ _ (by assumption) (by omega))).mono ?_
      rintro v W2 ⟨o1, k1⟩; exact ⟨k1, o1.lo hk.size⟩
    · refine ⟨[], rfl, ?_⟩; rintro W1 hk vs hd
      obtain ⟨hB, hb1⟩ := bX hk hB hb1
      refine ⟨true, fun a _ => rfl, fun _ => (aa [(1, _)] ⟨rfl, trivial⟩ ?_), fun h => by cases h⟩
      refine (Gives.does (ak aC rfl bh (by decide) rfl)).mono ?_
      rintro v W2 ⟨rfl, rfl⟩
      exact ⟨Keep.refl _ _, rfl⟩
    · refine ⟨[8], rfl, ?_⟩; rintro W1 hk vs hd
      have d8 : (vs 8) = .pointer (some ⟨b1, 0 + 3, none⟩) := hd 8 (by decide)
      obtain ⟨hB, hb1⟩ := bX hk hB hb1
      refine ⟨true, fun a _ => rfl, fun _ => (aa [(12, .pointer (some ⟨b1, 0 + 3, none⟩))] ⟨congrArg some d8, trivial⟩ ?_), fun h => by cases h⟩
      refine (Gives.does (ae cY rfl hb1 rfl)).mono ?_
      rintro v W2 ⟨rfl, rfl⟩
      exact ⟨Keep.refl _ _, rfl⟩
    · refine ⟨[9], rfl, ?_⟩; rintro W1 hk vs hd
      have d9 : (vs 9) = .int .i64 l.src := hd 9 (by decide)
      obtain ⟨hB, hb1⟩ := bX hk hB hb1
      refine ⟨true, fun a _ => rfl, fun _ => (aa [(13, .int .i64 l.src)] ⟨congrArg some d9, trivial⟩ ?_), fun h => by cases h⟩
      refine (Gives.does (lW (by rw [aM]; rfl) aG rfl)).mono ?_
      rintro v W2 ⟨rfl, rfl⟩
      exact ⟨Keep.refl _ _, rfl⟩
    · refine ⟨[10], rfl, ?_⟩; rintro W1 hk vs hd
      have d10 : (vs 10) = .int .u8 (IntKind.u8.wrap l.src) := hd 10 (by decide)
      obtain ⟨hB, hb1⟩ := bX hk hB hb1
      refine ⟨true, fun a _ => rfl, fun _ => (aa [(14, .int .u8 (IntKind.u8.wrap l.src))] ⟨congrArg some d10, trivial⟩ ?_), fun h => by cases h⟩
      refine (de (m := 1) (xs := [.tmp 14]) (vs := [_]) aA cT (by decide) rfl rfl rfl (by simp only [List.forall_mem_cons]; exact ⟨rfl, fun v hv => by cases hv⟩) (by decide)).mono ?_
      rintro v W2 ⟨o1, _, _, k1, _⟩; exact ⟨k1, (show OwnB _ _ _ [byteAt l.src 0] from kB o1 (by rw [bZ, IntKind.wrap_u8]; simp)).lo hk.size⟩
  rintro w2 k2 vs hv
  obtain ⟨hB, hb1⟩ := bX k2 hB hb1
  have e11 : OwnB w2 w1.heap.size (vs 7) (joinB [l.enc, l.sig, l.name]) := hv 7 (by decide) rfl
  have e15 : OwnB w2 w1.heap.size (vs 11) ([byteAt l.src 0]) := hv 11 (by decide) rfl
  refine cv [(11, vs 7), (15, vs 11), (1, _), (0, _), (2, _)] ⟨rfl, rfl, rfl, rfl, rfl, trivial⟩ ?_
  have o1 := e11
  have o2 := e15
  replace o1 := o1.lo (show b1 + 1 ≤ _ from by omega)
  have lt_o3 := hb1.lt
  refine ah (bW aA cT rfl o1 rfl (show RdB _ _ _ from o2.rd) (by first | omega | (simp only [List.length_append] at *; omega)) (by omega)) rfl ?_
  rintro v1 w3 ⟨o3, k3, lb1, _⟩
  replace hB := hB.new k3 (fun x hx => .inl (Nat.le_trans ge_b1 (Nat.le_of_lt (o1.blk x hx).1)))
  replace hb1 := hb1.keep k3 (fun hm => absurd (o1.blk _ hm).1 (Nat.lt_irrefl _))
  refine oga rfl rfl (a6 (a5 (a5 (aZ (a7 (ak aC rfl bh (by decide) rfl) rfl (a7 (ae cY rfl hb1 rfl) rfl (a7 (bE rfl rfl) rfl (a6 ?_))))))))
  refine bF rfl (fun hc1 => ?_) (fun hc1 => ?_)
  · -- yes
    refine aZ (ogm rfl rfl (a7 (ak aC rfl am (by decide) rfl) rfl (a7 (ae aw rfl hb1 rfl) rfl (ah (cf (m := 1) (ls := [l.hash]) (xs := [.tmp 22]) (us := [_]) aJ am rfl rfl (bL (by first | exact Rd.nil _ _ | exact (by first | assumption | exact Own.rd (by assumption) | exact Rd.oC (by assumption) hB | exact Own.rd (Own.oC (by assumption) hB))) (bb _)) rfl rfl) rfl ?_))))
    rintro v2 w4 ⟨sl1, k4⟩
    replace hb1 := hb1.oC k4
    replace o3 := o3.oC k4
    replace hB := hB.trans k4
    refine ah (ab (vs := [_]) rfl (cH _ _ _ _ (by assumption) (by omega))) rfl ?_
    rintro v3 w5 ⟨o5, k5⟩
    have gl_o5 := hB.size
    replace hb1 := hb1.oC k5
    replace o3 := o3.oC k5
    replace sl1 := sl1.oC k5
    replace hB := hB.trans k5
    have lt_o6 := hb1.lt
    refine ah (bW aA cT rfl o3 rfl (show RdB _ _ _ from o5.rd) (by first | omega | (simp only [List.length_append] at *; omega)) (by omega)) rfl ?_
    rintro v4 w6 ⟨o6, k6, lb2, _⟩
    replace hB := hB.new k6 (fun x hx => .inl (Nat.le_trans ge_b1 (Nat.le_of_lt (o3.blk x hx).1)))
    refine oga rfl rfl (a6 (af [(3, _)] ⟨rfl, trivial⟩ (a5 (aZ (ogm rfl rfl (oga rfl rfl (a6 (al hfin Try.results77 rfl ?_))))))))
    have hh := o6
    exact ⟨(show OwnB _ _ _ (leafBare l) from by have e : joinB [l.enc, l.sig, l.name] ++ [byteAt l.src 0] ++ joinB [l.hash] = leafBare l := (by unfold leafBare; rw [e3, be_1, e4, if_pos (by omega)] <;> simp only [List.append_assoc, List.append_nil]); unfold OwnB; rw [← e]; simp only [List.length_append] at hh ⊢; exact hh).lo (by omega), hB⟩
  · -- no
    refine aj (a5 (aZ (ogm rfl rfl (oga rfl rfl (a6 (af [(2, _)] ⟨rfl, trivial⟩ (al hfin Try.results77 rfl ?_)))))))
    have hh := o3
    exact ⟨(show OwnB _ _ _ (leafBare l) from by have e : joinB [l.enc, l.sig, l.name] ++ [byteAt l.src 0] = leafBare l := (by unfold leafBare; rw [e3, be_1, if_neg (by omega)] <;> simp only [List.append_assoc, List.append_nil]); unfold OwnB; rw [← e]; simp only [List.length_append] at hh ⊢; exact hh).lo (by omega), hB⟩
theorem iH (e s n h g : Value) (l : Lf) (w : World) (he : RdB w e l.enc) (hs : RdB w s l.sig) (hn : RdB w n l.name) (hh : RdB w h l.hash) (hg : RdB w g l.sg) (hok : leafOk l = true) : Rets Try.prog 34 [.agg [e, s, n, .int .i64 l.src, h, g].toArray] w (fun u w' => OwnB w' w.heap.size u (leafB l) ∧ Keep [] w w') := by
  have hB : Keep [] w w := Keep.refl _ _
  obtain ⟨n1, n2, n3, n4, n5, n6, n7⟩ := cZ hok
  obtain ⟨e5, m5⟩ := gt n5
  have m6 := da hok
  refine ai Try.func34 rfl (by decide) Try.ntmps34 rfl (fun fin _ hfin => a5 (aZ (ah (bc (cs := [e, s, n, .int .i64 l.src, h, g]) rfl rfl) rfl ?_)))
  rintro _ w1 ⟨b1, rfl, eb1, hb1, k1, z1⟩
  have ge_b1 : w.heap.size ≤ b1 := by have := hB.size; omega
  replace hB := hB.trans k1
  clear eb1 z1
  refine oga rfl rfl (a6 (a5 ?_))
  have ltb1 := hb1.lt
  refine fe 6 mixed [(1, _), (0, _), (2, _)] (fun jj v W => match jj with | 0 => v = .agg [e, s, n, .int .i64 l.src, h, g].toArray | 1 => OwnB W w1.heap.size v (leafBare l) | 2 => v = .pointer (some ⟨b1, 0 + 5, none⟩) | 3 => v = g | 4 => SlL W w1.heap.size 22 v [l.sg] | 5 => OwnB W w1.heap.size v (joinB [l.sg]) | _ => True) ⟨rfl, rfl, rfl, trivial⟩ (by decide) (by decide) rfl ?_ ?_ ?_
  · intro jj v W W' h k
    match jj, h with
    | 0, h => exact h
    | 1, h => exact h.oC k
    | 2, h => exact h
    | 3, h => exact h
    | 4, h => exact h.oC k
    | 5, h => exact h.oC k
    | _ + 6, _ => trivial
  · refine ⟨?_, ?_, ?_, ?_, ?_, ?_, trivial⟩
    · refine ⟨[], rfl, ?_⟩; rintro W1 hk vs hd
      obtain ⟨hB, hb1⟩ := bX hk hB hb1
      refine ⟨true, fun a _ => rfl, fun _ => (aa [(1, _)] ⟨rfl, trivial⟩ ?_), fun h => by cases h⟩
      refine (Gives.does (au (cs' := [_, _, _, _, _, _]) fB bm rfl hb1 rfl rfl)).mono ?_
      rintro v W2 ⟨rfl, rfl⟩
      exact ⟨Keep.refl _ _, rfl⟩
    · refine ⟨[0], rfl, ?_⟩; rintro W1 hk vs hd
      have d0 : (vs 0) = .agg [e, s, n, .int .i64 l.src, h, g].toArray := hd 0 (by decide)
      obtain ⟨hB, hb1⟩ := bX hk hB hb1
      refine ⟨true, fun a _ => rfl, fun _ => (aa [(3, .agg [e, s, n, .int .i64 l.src, h, g].toArray)] ⟨congrArg some d0, trivial⟩ ?_), fun h => by cases h⟩
      refine (ab (vs := [_]) rfl (mX _ _ _ _ _ l _ (by first | assumption | exact Own.rd (by assumption) | exact Rd.oC (by assumption) hB | exact Own.rd (Own.oC (by assumption) hB)) (by first | assumption | exact Own.rd (by assumption) | exact Rd.oC (by assumption) hB | exact Own.rd (Own.oC (by assumption) hB)) (by first | assumption | exact Own.rd (by assumption) | exact Rd.oC (by assumption) hB | exact Own.rd (Own.oC (by assumption) hB)) (by first | assumption | exact Own.rd (by assumption) | exact Rd.oC (by assumption) hB | exact Own.rd (Own.oC (by assumption) hB)) (by first | assumption | exact Own.rd (by assumption) | exact Rd.oC (by assumption) hB | exact Own.rd (Own.oC (by assumption) hB)) hok)).mono ?_
      rintro v W2 ⟨o1, k1⟩; exact ⟨k1, o1.lo hk.size⟩
    · refine ⟨[], rfl, ?_⟩; rintro W1 hk vs hd
      obtain ⟨hB, hb1⟩ := bX hk hB hb1
      refine ⟨true, fun a _ => rfl, fun _ => (aa [(1, _)] ⟨rfl, trivial⟩ ?_), fun h => by cases h⟩
      refine (Gives.does (ak aC rfl am (by decide) rfl)).mono ?_
      rintro v W2 ⟨rfl, rfl⟩
      exact ⟨Keep.refl _ _, rfl⟩
    · refine ⟨[2], rfl, ?_⟩; rintro W1 hk vs hd
      have d2 : (vs 2) = .pointer (some ⟨b1, 0 + 5, none⟩) := hd 2 (by decide)
      obtain ⟨hB, hb1⟩ := bX hk hB hb1
      refine ⟨true, fun a _ => rfl, fun _ => (aa [(5, .pointer (some ⟨b1, 0 + 5, none⟩))] ⟨congrArg some d2, trivial⟩ ?_), fun h => by cases h⟩
      refine (Gives.does (ae aw rfl hb1 rfl)).mono ?_
      rintro v W2 ⟨rfl, rfl⟩
      exact ⟨Keep.refl _ _, rfl⟩
    · refine ⟨[3], rfl, ?_⟩; rintro W1 hk vs hd
      have d3 : (vs 3) = g := hd 3 (by decide)
      obtain ⟨hB, hb1⟩ := bX hk hB hb1
      refine ⟨true, fun a _ => rfl, fun _ => (aa [(6, g)] ⟨congrArg some d3, trivial⟩ ?_), fun h => by cases h⟩
      refine (cf (m := 1) (ls := [l.sg]) (xs := [.tmp 6]) (us := [_]) aJ am rfl rfl (bL (by first | exact Rd.nil _ _ | exact (by first | assumption | exact Own.rd (by assumption) | exact Rd.oC (by assumption) hB | exact Own.rd (Own.oC (by assumption) hB))) (bb _)) rfl rfl).mono ?_
      rintro v W2 ⟨o1, k1⟩; exact ⟨k1, o1.lo hk.size⟩
    · refine ⟨[4], rfl, ?_⟩; rintro W1 hk vs hd
      have d4 : SlL W1 w1.heap.size 22 (vs 4) [l.sg] := hd 4 (by decide)
      obtain ⟨hB, hb1⟩ := bX hk hB hb1
      refine ⟨true, fun a _ => rfl, fun _ => (aa [(7, vs 4)] ⟨rfl, trivial⟩ ?_), fun h => by cases h⟩
      refine (ab (vs := [_]) rfl (cH _ _ _ _ (by assumption) (by omega))).mono ?_
      rintro v W2 ⟨o1, k1⟩; exact ⟨k1, o1.lo hk.size⟩
  rintro w2 k2 vs hv
  obtain ⟨hB, hb1⟩ := bX k2 hB hb1
  have e4 : OwnB w2 w1.heap.size (vs 1) (leafBare l) := hv 1 (by decide) rfl
  have e8 : OwnB w2 w1.heap.size (vs 5) (joinB [l.sg]) := hv 5 (by decide) rfl
  refine cv [(4, vs 1), (8, vs 5), (1, _), (0, _), (2, _)] ⟨rfl, rfl, rfl, rfl, rfl, trivial⟩ ?_
  have o1 := e4
  have o2 := e8
  replace o1 := o1.lo (show b1 + 1 ≤ _ from by omega)
  have lt_o3 := hb1.lt
  refine ah (bW aA cT rfl o1 rfl (show RdB _ _ _ from o2.rd) (by first | omega | (simp only [List.length_append] at *; omega)) (by omega)) rfl ?_
  rintro v1 w3 ⟨o3, k3, lb1, _⟩
  replace hB := hB.new k3 (fun x hx => .inl (Nat.le_trans ge_b1 (Nat.le_of_lt (o1.blk x hx).1)))
  refine oga rfl rfl (a6 (al hfin Try.results34 rfl ?_))
  have hh := o3
  exact ⟨(show OwnB _ _ _ (leafB l) from by have e : leafBare l ++ joinB [l.sg] = leafB l := (by unfold leafB; rw [e5]); unfold OwnB; rw [← e]; simp only [List.length_append] at hh ⊢; exact hh).lo (by omega), hB⟩
theorem kv (i e s n h g gg : Value) (z : Pk) (w : World) (hi : RdB w i z.init) (he : RdB w e z.leaf.enc) (hs : RdB w s z.leaf.sig) (hn : RdB w n z.leaf.name) (hh : RdB w h z.leaf.hash) (hg : RdB w g z.leaf.sg) (hgg : RdB w gg z.sg) (hok : pkOk z = true) : Rets Try.prog 76 [.agg [i, e, s, n, .int .i64 z.leaf.src, h, g, gg].toArray] w (fun u w' => OwnB w' w.heap.size u (pkOffer z) ∧ Keep [] w w') := by
 have hB : Keep [] w w := Keep.refl _ _
 obtain ⟨n1, n2, hlo⟩ := dj hok
 obtain ⟨e1, m1⟩ := gt n1
 have m2 := df hlo
 have m3 : ([0, 1, 0, 1] : List UInt8).length = 4 := rfl
 refine ai Try.func76 rfl (by decide) Try.ntmps76 rfl (fun fin _ hfin => a5 (aZ (ah (bc (cs := [i, e, s, n, .int .i64 z.leaf.src, h, g, gg]) rfl rfl) rfl ?_)))
 rintro _ w1 ⟨b1, rfl, eb1, hb1, k1, z1⟩
 have ge_b1 : w.heap.size ≤ b1 := by have := hB.size; omega
 replace hB := hB.trans k1
 clear eb1 z1
 refine oga rfl rfl (a6 (a5 (aZ ?_)))
 have ltb4 := hb1.lt
 refine ah (de (m := 4) (xs := [.const (.int .u8 (0)), .const (.int .u8 (1)), .const (.int .u8 (0)), .const (.int .u8 (1))]) (vs := [_, _, _, _]) aA cT (by decide) rfl rfl rfl (by simp only [List.forall_mem_cons]; exact ⟨rfl, rfl, rfl, rfl, fun v hv => by cases hv⟩) (by decide)) rfl ?_
 rintro v1 w2 ⟨o1, nn1, lb1, k2, z2⟩
 have gl_o1 := hB.size
 obtain ⟨hB, hb1⟩ := bX k2 hB hb1
 replace o1 : Own w2 _ _ 1 v1 4 (bv [0, 1, 0, 1]) := o1
 replace o1 := o1.lo ltb4
 refine a7 (ak aK rfl am (by decide) rfl) rfl (a7 (ae aw rfl hb1 rfl) rfl (ah (cf (m := 1) (ls := [z.init]) (xs := [.tmp 6]) (us := [_]) aJ am rfl rfl (bL (by first | exact Rd.nil _ _ | exact (by first | assumption | exact Own.rd ‹_› | exact Rd.oC ‹_› hB | exact Own.rd (Own.oC ‹_› hB))) (bb _)) rfl rfl) rfl ?_))
 rintro v2 w3 ⟨sl1, k3⟩
 replace hb1 := hb1.oC k3
 replace o1 := o1.oC k3
 replace hB := hB.trans k3
 refine ah (ab (vs := [_]) rfl (cH _ _ _ _ ‹_› (by omega))) rfl ?_
 rintro v3 w4 ⟨o3, k4⟩
 have gl_o3 := hB.size
 replace hb1 := hb1.oC k4
 replace o1 := o1.oC k4
 replace sl1 := sl1.oC k4
 replace hB := hB.trans k4
 have lt_o4 := hb1.lt
 refine ah (bW aA cT rfl o1 rfl (show RdB _ _ _ from o3.rd) (by first | omega | (simp only [List.length_append] at *; omega)) (by omega)) rfl ?_
 rintro v4 w5 ⟨o4, k5, lb2, _⟩
 replace hB := hB.new k5 (fun x hx => .inl (Nat.le_trans ge_b1 (Nat.le_of_lt (o1.blk x hx).1)))
 replace hb1 := hb1.keep k5 (fun hm => absurd (o1.blk _ hm).1 (Nat.lt_irrefl _))
 refine oga rfl rfl (a6 (a5 (aZ (ogm rfl rfl (a7 (ak aK rfl bm (by decide) rfl) rfl (a7 (au (cs' := [_, _, _, _, _, _]) fB bm rfl hb1 rfl rfl) rfl (ah (ab (vs := [_]) rfl (iH _ _ _ _ _ z.leaf _ (by first | assumption | exact Own.rd ‹_› | exact Rd.oC ‹_› hB | exact Own.rd (Own.oC ‹_› hB)) (by first | assumption | exact Own.rd ‹_› | exact Rd.oC ‹_› hB | exact Own.rd (Own.oC ‹_› hB)) (by first | assumption | exact Own.rd ‹_› | exact Rd.oC ‹_› hB | exact Own.rd (Own.oC ‹_› hB)) (by first | assumption | exact Own.rd ‹_› | exact Rd.oC ‹_› hB | exact Own.rd (Own.oC ‹_› hB)) (by first | assumption | exact Own.rd ‹_› | exact Rd.oC ‹_› hB | exact Own.rd (Own.oC ‹_› hB)) hlo)) rfl ?_)))))))
 rintro v5 w6 ⟨o5, k6⟩
 have gl_o5 := hB.size
 replace hb1 := hb1.oC k6
 replace o4 := o4.oC k6
 replace hB := hB.trans k6
 have lt_o6 := hb1.lt
 refine ah (bW aA cT rfl o4 rfl (show RdB _ _ _ from o5.rd) (by first | omega | (simp only [List.length_append] at *; omega)) (by omega)) rfl ?_
 rintro v6 w7 ⟨o6, k7, lb3, _⟩
 replace hB := hB.new k7 (fun x hx => .inl (Nat.le_trans ge_b1 (Nat.le_of_lt (o4.blk x hx).1)))
 refine oga rfl rfl (a6 (af [(2, _)] ⟨rfl, trivial⟩ (al hfin Try.results76 rfl ?_)))
 have hh := o6
 exact ⟨(show OwnB _ _ _ (pkOffer z) from by have e : [0, 1, 0, 1] ++ joinB [z.init] ++ leafB z.leaf = pkOffer z := (by unfold pkOffer; rw [e1]); unfold OwnB; rw [← e]; simp only [List.length_append] at hh ⊢; exact hh).lo (by omega), hB⟩
theorem nF (i e s n h g gg : Value) (z : Pk) (w : World) (hi : RdB w i z.init) (he : RdB w e z.leaf.enc) (hs : RdB w s z.leaf.sig) (hn : RdB w n z.leaf.name) (hh : RdB w h z.leaf.hash) (hg : RdB w g z.leaf.sg) (hgg : RdB w gg z.sg) (hok : pkOk z = true) : Rets Try.prog 33 [.agg [i, e, s, n, .int .i64 z.leaf.src, h, g, gg].toArray] w (fun u w' => OwnB w' w.heap.size u (pkB z) ∧ Keep [] w w') := by
  have hB : Keep [] w w := Keep.refl _ _
  obtain ⟨n1, n2, hlo⟩ := dj hok
  obtain ⟨e2, m2⟩ := gt n2
  have m3 := fM hok
  refine ai Try.func33 rfl (by decide) Try.ntmps33 rfl (fun fin _ hfin => a5 (aZ (ah (bc (cs := [i, e, s, n, .int .i64 z.leaf.src, h, g, gg]) rfl rfl) rfl ?_)))
  rintro _ w1 ⟨b1, rfl, eb1, hb1, k1, z1⟩
  have ge_b1 : w.heap.size ≤ b1 := by have := hB.size; omega
  replace hB := hB.trans k1
  clear eb1 z1
  refine oga rfl rfl (a6 (a5 ?_))
  have ltb1 := hb1.lt
  refine fe 6 mixed [(1, _), (0, _), (2, _)] (fun jj v W => match jj with | 0 => v = .agg [i, e, s, n, .int .i64 z.leaf.src, h, g, gg].toArray | 1 => OwnB W w1.heap.size v (pkOffer z) | 2 => v = .pointer (some ⟨b1, 0 + 7, none⟩) | 3 => v = gg | 4 => SlL W w1.heap.size 22 v [z.sg] | 5 => OwnB W w1.heap.size v (joinB [z.sg]) | _ => True) ⟨rfl, rfl, rfl, trivial⟩ (by decide) (by decide) rfl ?_ ?_ ?_
  · intro jj v W W' h k
    match jj, h with
    | 0, h => exact h
    | 1, h => exact h.oC k
    | 2, h => exact h
    | 3, h => exact h
    | 4, h => exact h.oC k
    | 5, h => exact h.oC k
    | _ + 6, _ => trivial
  · refine ⟨?_, ?_, ?_, ?_, ?_, ?_, trivial⟩
    · refine ⟨[], rfl, ?_⟩; rintro W1 hk vs hd
      obtain ⟨hB, hb1⟩ := bX hk hB hb1
      refine ⟨true, fun a _ => rfl, fun _ => (aa [(1, _)] ⟨rfl, trivial⟩ ?_), fun h => by cases h⟩
      refine (Gives.does (au (cs' := [_, _, _, _, _, _, _, _]) ii cp rfl hb1 rfl rfl)).mono ?_
      rintro v W2 ⟨rfl, rfl⟩
      exact ⟨Keep.refl _ _, rfl⟩
    · refine ⟨[0], rfl, ?_⟩; rintro W1 hk vs hd
      have d0 : (vs 0) = .agg [i, e, s, n, .int .i64 z.leaf.src, h, g, gg].toArray := hd 0 (by decide)
      obtain ⟨hB, hb1⟩ := bX hk hB hb1
      refine ⟨true, fun a _ => rfl, fun _ => (aa [(3, .agg [i, e, s, n, .int .i64 z.leaf.src, h, g, gg].toArray)] ⟨congrArg some d0, trivial⟩ ?_), fun h => by cases h⟩
      refine (ab (vs := [_]) rfl (kv _ _ _ _ _ _ _ z _ (by first | assumption | exact Own.rd (by assumption) | exact Rd.oC (by assumption) hB | exact Own.rd (Own.oC (by assumption) hB)) (by first | assumption | exact Own.rd (by assumption) | exact Rd.oC (by assumption) hB | exact Own.rd (Own.oC (by assumption) hB)) (by first | assumption | exact Own.rd (by assumption) | exact Rd.oC (by assumption) hB | exact Own.rd (Own.oC (by assumption) hB)) (by first | assumption | exact Own.rd (by assumption) | exact Rd.oC (by assumption) hB | exact Own.rd (Own.oC (by assumption) hB)) (by first | assumption | exact Own.rd (by assumption) | exact Rd.oC (by assumption) hB | exact Own.rd (Own.oC (by assumption) hB)) (by first | assumption | exact Own.rd (by assumption) | exact Rd.oC (by assumption) hB | exact Own.rd (Own.oC (by assumption) hB)) (by first | assumption | exact Own.rd (by assumption) | exact Rd.oC (by assumption) hB | exact Own.rd (Own.oC (by assumption) hB)) hok)).mono ?_
      rintro v W2 ⟨o1, k1⟩; exact ⟨k1, o1.lo hk.size⟩
    · refine ⟨[], rfl, ?_⟩; rintro W1 hk vs hd
      obtain ⟨hB, hb1⟩ := bX hk hB hb1
      refine ⟨true, fun a _ => rfl, fun _ => (aa [(1, _)] ⟨rfl, trivial⟩ ?_), fun h => by cases h⟩
      refine (Gives.does (ak aK rfl am (by decide) rfl)).mono ?_
      rintro v W2 ⟨rfl, rfl⟩
      exact ⟨Keep.refl _ _, rfl⟩
    · refine ⟨[2], rfl, ?_⟩; rintro W1 hk vs hd
      have d2 : (vs 2) = .pointer (some ⟨b1, 0 + 7, none⟩) := hd 2 (by decide)
      obtain ⟨hB, hb1⟩ := bX hk hB hb1
      refine ⟨true, fun a _ => rfl, fun _ => (aa [(5, .pointer (some ⟨b1, 0 + 7, none⟩))] ⟨congrArg some d2, trivial⟩ ?_), fun h => by cases h⟩
      refine (Gives.does (ae aw rfl hb1 rfl)).mono ?_
      rintro v W2 ⟨rfl, rfl⟩
      exact ⟨Keep.refl _ _, rfl⟩
    · refine ⟨[3], rfl, ?_⟩; rintro W1 hk vs hd
      have d3 : (vs 3) = gg := hd 3 (by decide)
      obtain ⟨hB, hb1⟩ := bX hk hB hb1
      refine ⟨true, fun a _ => rfl, fun _ => (aa [(6, gg)] ⟨congrArg some d3, trivial⟩ ?_), fun h => by cases h⟩
      refine (cf (m := 1) (ls := [z.sg]) (xs := [.tmp 6]) (us := [_]) aJ am rfl rfl (bL (by first | exact Rd.nil _ _ | exact (by first | assumption | exact Own.rd (by assumption) | exact Rd.oC (by assumption) hB | exact Own.rd (Own.oC (by assumption) hB))) (bb _)) rfl rfl).mono ?_
      rintro v W2 ⟨o1, k1⟩; exact ⟨k1, o1.lo hk.size⟩
    · refine ⟨[4], rfl, ?_⟩; rintro W1 hk vs hd
      have d4 : SlL W1 w1.heap.size 22 (vs 4) [z.sg] := hd 4 (by decide)
      obtain ⟨hB, hb1⟩ := bX hk hB hb1
      refine ⟨true, fun a _ => rfl, fun _ => (aa [(7, vs 4)] ⟨rfl, trivial⟩ ?_), fun h => by cases h⟩
      refine (ab (vs := [_]) rfl (cH _ _ _ _ (by assumption) (by omega))).mono ?_
      rintro v W2 ⟨o1, k1⟩; exact ⟨k1, o1.lo hk.size⟩
  rintro w2 k2 vs hv
  obtain ⟨hB, hb1⟩ := bX k2 hB hb1
  have e4 : OwnB w2 w1.heap.size (vs 1) (pkOffer z) := hv 1 (by decide) rfl
  have e8 : OwnB w2 w1.heap.size (vs 5) (joinB [z.sg]) := hv 5 (by decide) rfl
  refine cv [(4, vs 1), (8, vs 5), (1, _), (0, _), (2, _)] ⟨rfl, rfl, rfl, rfl, rfl, trivial⟩ ?_
  have o1 := e4
  have o2 := e8
  replace o1 := o1.lo (show b1 + 1 ≤ _ from by omega)
  have lt_o3 := hb1.lt
  refine ah (bW aA cT rfl o1 rfl (show RdB _ _ _ from o2.rd) (by first | omega | (simp only [List.length_append] at *; omega)) (by omega)) rfl ?_
  rintro v1 w3 ⟨o3, k3, lb1, _⟩
  replace hB := hB.new k3 (fun x hx => .inl (Nat.le_trans ge_b1 (Nat.le_of_lt (o1.blk x hx).1)))
  refine oga rfl rfl (a6 (al hfin Try.results33 rfl ?_))
  have hh := o3
  exact ⟨(show OwnB _ _ _ (pkB z) from by have e : pkOffer z ++ joinB [z.sg] = pkB z := (by unfold pkB; rw [e2]); unfold OwnB; rw [← e]; simp only [List.length_append] at hh ⊢; exact hh).lo (by omega), hB⟩
theorem mP (n : Int) (w : World) : Rets Try.prog 85 [.int .i64 n] w (fun v w' => v = .bool (decide (n = 1) || decide (n = 2) || decide (n = 4) || decide (n = 8)) ∧ w = w') := by
 refine ai Try.func85 rfl (by decide) Try.ntmps85 rfl (fun fin _ hfin => a5 (aZ (oga rfl rfl (a6 (a5 (aZ (ogm rfl rfl (a7 (bE rfl rfl) rfl (ogm rfl rfl (aq 5 false rfl (fun c1 hgc1 => a9 [(0, _)] (ad rfl rfl rfl hgc1) ⟨bB rfl, trivial⟩ (fun hw1 => bC rfl) rfl (a9 [(6, _)] (ad rfl rfl rfl hgc1) ⟨ag rfl, trivial⟩ (fun hw2 => bE rfl rfl) rfl (a7 (bP rfl rfl hgc1) rfl (ogm rfl rfl (aq 9 false rfl (fun c2 hgc2 => a9 [(0, _)] (ad rfl rfl rfl hgc2) ⟨bB rfl, trivial⟩ (fun hw3 => bC rfl) rfl ?_))))))))))))))))
 refine a9 [(10, _)] (ad rfl rfl rfl hgc2) ⟨ag rfl, trivial⟩ (fun hw4 => bE rfl rfl) rfl (a7 (bP rfl rfl hgc2) rfl (ogm rfl rfl (aq 13 false rfl (fun c3 hgc3 => a9 [(0, _)] (ad rfl rfl rfl hgc3) ⟨bB rfl, trivial⟩ (fun hw5 => bC rfl) rfl (a9 [(14, _)] (ad rfl rfl rfl hgc3) ⟨ag rfl, trivial⟩ (fun hw6 => bE rfl rfl) rfl (a7 (bP rfl rfl hgc3) rfl (oga rfl rfl (a6 (al hfin Try.results85 rfl ?_)))))))))
 exact ⟨rfl, rfl⟩
theorem kq (p at_ : Nat) (bs : List UInt8) (bw : Value) (e size : Int) (w : World) (h : RdA w p bs bw at_ e) (hs : size = 1 ∨ size = 2 ∨ size = 4 ∨ size = 8) : Rets Try.prog 43 [.pointer (some ⟨p, 0, none⟩), .int .i64 size] w (fun v w' => ∃ r a2, r = rNum (bitsOf size) (bs.drop at_) e size ∧ v = .int .i64 r.1 ∧ RdA w' p bs bw a2 r.2.2 ∧ r.2.1 = bs.drop a2 ∧ Keep [p] w w') := by
 obtain ⟨hb, hr, hn, hal, hbl⟩ := h
 have hB : Keep [p] w w := Keep.refl _ _
 have hcap := hr.vcap
 have hdl : (bs.drop at_).length = bs.length - at_ := List.length_drop
 have hg0 : gb bs (at_ : Int) = (((bs.drop at_).getD 0 0).toNat : Int) := by unfold gb; rw [List.getD_eq_getElem?_getD, List.getD_eq_getElem?_getD, List.getElem?_drop, Int.toNat_natCast, Nat.add_zero]
 have hgr := gH bs (at_ : Int)
 have hsz : (decide (size = 1) || decide (size = 2) || decide (size = 4) || decide (size = 8)) = true := by rcases hs with rfl | rfl | rfl | rfl <;> decide
 have hbits : ¬ bitsOf size < 0 := by rcases hs with rfl | rfl | rfl | rfl <;> decide
 refine ai Try.func43 rfl (by decide) Try.ntmps43 rfl (fun fin _ hfin => a5 (aZ (oga rfl rfl (a6 (a5 (bA (a5 (aZ (ogm rfl rfl (a7 (ao rfl) rfl (a7 (ak aF rfl bh (by decide) rfl) rfl (a7 (ae cY rfl hb rfl) rfl (a7 (bn rfl rfl) rfl (oga rfl rfl (a6 (bF rfl (fun hc1 => ?_) (fun hc1 => ?_)))))))))))))))))
 ·
  refine a5 (aZ (oga rfl rfl (a6 (al hfin Try.results43 rfl ?_))))
  refine ⟨(0, bs.drop at_, e), at_, ?_, rfl, ⟨hb, hr, hn, by omega, hbl⟩, rfl, hB⟩
  unfold rNum
  repeat (first | rw [if_pos ‹_›] | rw [if_neg ‹_›] | rw [if_pos (by omega)] | rw [if_neg (by omega)])
  all_goals first | rfl | (refine Prod.ext rfl (Prod.ext rfl ?_); show _ = _; dsimp only; omega)
 ·
  refine a5 (aZ (ogm rfl rfl (ah (ab (vs := [_]) rfl (mP _ _)) rfl ?_)))
  rintro _ _ ⟨rfl, rfl⟩
  refine a7 (cd rfl) rfl (oga rfl rfl (a6 (dS rfl (by rw [hsz]; rfl) (a5 (aZ (ogm rfl rfl (ah (ab (vs := [_]) rfl (dB _ _ _ _ (by exact ⟨bs, at_, bw, by assumption, by assumption, hn, hal, rfl, hbl⟩))) rfl ?_)))))))
  rintro _ w1 ⟨rfl, k1⟩
  have z_k1 := k1.size
  replace hb := hb.oC k1
  replace hr := hr.oC k1
  replace hB := hB.trans k1.weak
  refine ogm rfl rfl (a7 (cN rfl rfl) rfl (oga rfl rfl (a6 (bF rfl (fun hc2 => ?_) (fun hc2 => ?_)))))
  ·
   refine a5 (aZ (ogm rfl rfl (a7 (ao rfl) rfl (a7 (ak aF rfl bh (by decide) rfl) rfl (an (bV bh rfl rfl rfl hb rfl) ?_)))))
   rintro _ w2 ⟨hb1, k2, z1⟩
   have z_k2 := k2.size
   replace hr := hr.keep k2 (fun x hx hm => Nat.ne_of_lt (hn x hx) (List.mem_singleton.1 hm))
   replace hB := hB.trans k2
   refine a6 (a5 (aZ (oga rfl rfl (a6 (al hfin Try.results43 rfl ?_)))))
   refine ⟨(0, bs.drop at_, 20), at_, ?_, rfl, ⟨hb1, hr, hn, by omega, hbl⟩, rfl, hB⟩
   unfold rNum
   repeat (first | rw [if_pos ‹_›] | rw [if_neg ‹_›] | rw [if_pos (by omega)] | rw [if_neg (by omega)])
   all_goals first | rfl | (refine Prod.ext rfl (Prod.ext rfl ?_); show _ = _; dsimp only; omega)
  ·
   refine a5 (mE mixed (by decide +kernel) (fun w3 k3 => ?_))
   have z_k3 := k3.size
   replace hb := hb.oC k3
   replace hr := hr.oC k3
   replace hB := hB.trans k3.weak
   refine iC (bC rfl) rfl (iC (bE rfl rfl) rfl (iC (bC rfl) rfl (sw_grp 30 true rfl (fun c1 hgc1 => fH [(0, _)] (ad rfl rfl rfl hgc1) ⟨bB rfl, trivial⟩ (fun hw1 => bC rfl) rfl (fH [(31, _)] (ad rfl rfl rfl hgc1) ⟨ag rfl, trivial⟩ (fun hw2 => ao rfl) rfl (fH [(32, _)] (ad rfl rfl rfl hgc1) ⟨ag rfl, trivial⟩ (fun hw3 => ak aF rfl am (by decide) rfl) rfl (fH [(33, _)] (ad rfl rfl rfl hgc1) ⟨ag rfl, trivial⟩ (fun hw4 => ae aw rfl hb rfl) rfl (fH [(0, _)] (ad rfl rfl rfl hgc1) ⟨bB rfl, trivial⟩ (fun hw5 => bC rfl) rfl (fH [(35, _)] (ad rfl rfl rfl hgc1) ⟨ag rfl, trivial⟩ (fun hw6 => ao rfl) rfl (fH [(36, _)] (ad rfl rfl rfl hgc1) ⟨ag rfl, trivial⟩ (fun hw7 => ak aF rfl bh (by decide) rfl) rfl ?_))))))))))
   refine fH [(37, _)] (ad rfl rfl rfl hgc1) ⟨ag rfl, trivial⟩ (fun hw8 => ae cY rfl hb rfl) rfl (fH [(34, _), (38, _)] (ad rfl rfl rfl hgc1) ⟨ag rfl, ag rfl, trivial⟩ (fun hw9 => eF aA cT rfl (by first | assumption | exact Own.rd ‹_› | exact Rd.oC ‹_› hB | exact Own.rd (Own.oC ‹_› hB)) rfl (by omega)) rfl (fH [(39, _)] (ad rfl rfl rfl hgc1) ⟨ag rfl, trivial⟩ (fun hw10 => gh sc5 rfl (by first | assumption | exact Own.rd ‹_› | exact Rd.oC ‹_› hB | exact Own.rd (Own.oC ‹_› hB)) (by omega)) rfl (fH [(40, _)] (ad rfl rfl rfl hgc1) ⟨ag rfl, trivial⟩ (fun hw11 => gW rfl rfl) rfl (iC (bM rfl rfl hgc1) rfl (iC (kV rfl) rfl (nC (a6 (bD rfl (fun hc3 => ?_) (fun hc3 => ?_)))))))))
   ·
    have hd1 := hc3
    try (simp only [Bool.and_eq_true, Bool.or_eq_true, decide_eq_true_eq, Bool.and_eq_false_iff, Bool.or_eq_false_iff, decide_eq_false_iff_not, Bool.not_eq_true', Bool.not_eq_false', Bool.not_eq_true, Bool.not_eq_false, ne_eq, Decidable.not_not, decide_true, decide_false, Bool.true_and, Bool.false_and, Bool.or_false, Bool.false_or, not_true_eq_false, false_or, or_false, true_and, and_true, not_false_eq_true, reduceCtorEq] at hd1)
    refine a5 (aZ (ogm rfl rfl (a7 (ao rfl) rfl (a7 (ak aF rfl bh (by decide) rfl) rfl (an (bV bh rfl rfl rfl hb rfl) ?_)))))
    rintro _ w4 ⟨hb2, k4, z2⟩
    have z_k4 := k4.size
    replace hr := hr.keep k4 (fun x hx hm => Nat.ne_of_lt (hn x hx) (List.mem_singleton.1 hm))
    replace hB := hB.trans k4
    refine a6 (a5 (aZ (oga rfl rfl (a6 (al hfin Try.results43 rfl ?_)))))
    refine ⟨(0, bs.drop at_, 11), at_, ?_, rfl, ⟨hb2, hr, hn, by omega, hbl⟩, rfl, hB⟩
    unfold rNum
    repeat (first | rw [if_pos ‹_›] | rw [if_neg ‹_›] | rw [if_pos (by omega)] | rw [if_neg (by omega)])
    all_goals first | rfl | (refine Prod.ext rfl (Prod.ext rfl ?_); show _ = _; dsimp only; omega)
   ·
    have hd2 := hc3
    try (simp only [Bool.and_eq_true, Bool.or_eq_true, decide_eq_true_eq, Bool.and_eq_false_iff, Bool.or_eq_false_iff, decide_eq_false_iff_not, Bool.not_eq_true', Bool.not_eq_false', Bool.not_eq_true, Bool.not_eq_false, ne_eq, Decidable.not_not, decide_true, decide_false, Bool.true_and, Bool.false_and, Bool.or_false, Bool.false_or, not_true_eq_false, false_or, or_false, true_and, and_true, not_false_eq_true, reduceCtorEq] at hd2)
    refine aj (cG (a5 (aZ (ogm rfl rfl (ogm rfl rfl (ah (ab (vs := [_, _]) rfl (fx _ (bs.drop at_) e _ _ (by exact ⟨bs, at_, bw, by assumption, by assumption, hn, hal, rfl, hbl⟩) (by omega) (by omega))) rfl ?_))))))
    rintro _ w5 ⟨rfl, k5⟩
    have z_k5 := k5.size
    replace hb := hb.oC k5
    replace hr := hr.oC k5
    replace hB := hB.trans k5.weak
    refine oga rfl rfl (a6 (a5 (aZ (ogm rfl rfl (ogm rfl rfl (a7 (ao rfl) rfl (a7 (ak aF rfl bh (by decide) rfl) rfl (a7 (ae cY rfl hb rfl) rfl (ogm rfl rfl (a7 (bN rfl rfl (by omega)) rfl (a7 (ao rfl) rfl (a7 (ak aF rfl bh (by decide) rfl) rfl (an (bV bh rfl rfl rfl hb rfl) ?_)))))))))))))
    rintro _ w6 ⟨hb3, k6, z3⟩
    have z_k6 := k6.size
    replace hr := hr.keep k6 (fun x hx hm => Nat.ne_of_lt (hn x hx) (List.mem_singleton.1 hm))
    replace hB := hB.trans k6
    refine a6 (a5 (aZ (ogm rfl rfl (oga rfl rfl (a6 (al hfin Try.results43 rfl ?_))))))
    rw [show ((at_ : Int) + size) = ((at_ + size.toNat : Nat) : Int) from by omega] at hb3
    refine ⟨((num ((bs.drop at_).take size.toNat)), (bs.drop at_).drop size.toNat, e), at_ + size.toNat, ?_, rfl, ⟨hb3, hr, hn, by omega, hbl⟩, List.drop_drop, hB⟩
    unfold rNum
    repeat (first | rw [if_pos ‹_›] | rw [if_neg ‹_›] | rw [if_pos (by omega)] | rw [if_neg (by omega)])
    all_goals first | rfl | (refine Prod.ext rfl (Prod.ext rfl ?_); show _ = _; dsimp only; omega)
theorem e7 (p : Nat) (rest : List UInt8) (e size : Int) (w : World) (h : RdR w p rest e) (hs : size = 1 ∨ size = 2 ∨ size = 4 ∨ size = 8) : Rets Try.prog 43 [.pointer (some ⟨p, 0, none⟩), .int .i64 size] w (fun v w' => ∃ r, r = rNum (bitsOf size) rest e size ∧ v = .int .i64 r.1 ∧ RdR w' p r.2.1 r.2.2 ∧ Keep [p] w w') := by
  obtain ⟨bs, bw, at_, rfl, h2⟩ := h.rdA
  refine (kq p at_ bs bw e size w h2 hs).mono ?_
  rintro v w' ⟨r, a2, h1, h2, h3, h4, h5⟩
  exact ⟨r, h1, h2, h4 ▸ h3.rdR, h5⟩
theorem iG (p : Nat) (rest : List UInt8) (e : Int) (w : World) (h : RdR w p rest e) : Rets Try.prog 43 [.pointer (some ⟨p, 0, none⟩), .int .i64 1] w (fun v w' => v = .int .i64 (rNum 8 rest e 1).1 ∧ RdR w' p (rNum 8 rest e 1).2.1 (rNum 8 rest e 1).2.2 ∧ Keep [p] w w') := by
  refine (e7 p rest e 1 w h (by decide)).mono ?_
  rintro v w' ⟨r, hr, h1, h2, h3⟩
  rw [show bitsOf 1 = 8 from by decide] at hr; subst hr; exact ⟨h1, h2, h3⟩
theorem ff (p : Nat) (rest : List UInt8) (e : Int) (w : World) (h : RdR w p rest e) : Rets Try.prog 43 [.pointer (some ⟨p, 0, none⟩), .int .i64 2] w (fun v w' => v = .int .i64 (rNum 16 rest e 2).1 ∧ RdR w' p (rNum 16 rest e 2).2.1 (rNum 16 rest e 2).2.2 ∧ Keep [p] w w') := by
  refine (e7 p rest e 2 w h (by decide)).mono ?_
  rintro v w' ⟨r, hr, h1, h2, h3⟩
  rw [show bitsOf 2 = 16 from by decide] at hr; subst hr; exact ⟨h1, h2, h3⟩
theorem f6 (w wS : World) (hB : Keep [] w wS) (r : Nat) (rest : List UInt8) (e : Int) (hr0 : w.heap.size ≤ r) (rr : RdR wS r rest e) (hx : rest.length ≤ 140737488351232) : Rets Try.prog 87 [.pointer (some ⟨r, 0, none⟩)] wS (fun v w' => ∃ a b c h g, v = .agg [a, b, c, .int .i64 (rLeaf rest e).1.src, h, g].toArray ∧ OwnB w' wS.heap.size a (rLeaf rest e).1.enc ∧ OwnB w' wS.heap.size b (rLeaf rest e).1.sig ∧ OwnB w' wS.heap.size c (rLeaf rest e).1.name ∧ OwnB w' wS.heap.size h (rLeaf rest e).1.hash ∧ OwnB w' wS.heap.size g (rLeaf rest e).1.sg ∧ RdR w' r (rLeaf rest e).2.1 (rLeaf rest e).2.2 ∧ Keep [] w w' ∧ Keep [r] wS w') := by
 have hK : Keep [r] wS wS := Keep.refl _ _
 obtain ⟨z1, z2, z3, z4, z5⟩ := fU rest e
 refine ai Try.func87 rfl (by decide) Try.ntmps87 rfl (fun fin _ hfin => a5 (aZ ?_))
 have lr2 := rr.lt
 refine ah (bG bm) rfl ?_
 rintro _ w1 ⟨b1, rfl, eb1, hb1, k1, z1⟩
 have rlt2 : r < b1 := by omega
 have geS_b1 : wS.heap.size ≤ b1 := by have := hK.size; omega
 have ge_b1 : w.heap.size ≤ b1 := by have := hB.size; omega
 replace rr := rr.oC k1
 replace hB := hB.trans k1
 replace hK := hK.trans k1.weak
 clear eb1 z1
 refine a6 (a5 (aZ (ogm rfl rfl ?_)))
 have lv_km1 := rr.lt
 refine ah (ab (vs := [_]) rfl (bY r rest e _ rr)) rfl ?_
 rintro v1 w2 ⟨_, rfl, o1, rr, km1⟩
 have gl_o1 := hB.size
 have sb_b1_o1 := fun x hx => (show x ≠ b1 from by have h1 := (o1.blk x hx).1; have h2 := hb1.lt; omega)
 have gS_o1 := hK.size
 have z_km1 := km1.size
 replace hb1 := hb1.keep km1 (fun hm => by have h9 := List.mem_singleton.1 hm; omega)
 replace hB := hB.new km1 (fun x hm => .inl (by have h9 := List.mem_singleton.1 hm; omega))
 replace hK := hK.trans km1
 refine a7 (cA (idx := [0]) (xs := [.tmp 5]) (vs := [_]) (css := [[_]]) (out := [_, _, _, _, _, _]) pl24 bm rfl rfl ⟨Rd.cells (by first | assumption | exact Own.rd ‹_› | exact Rd.oC ‹_› hB | exact Own.rd (Own.oC ‹_› hB)), trivial⟩ rfl rfl) rfl ?_
 have lr3 := rr.lt
 refine ah (bG bm) rfl ?_
 rintro _ w3 ⟨b2, rfl, eb2, hb2, k2, z2⟩
 have rlt3 : r < b2 := by omega
 have geS_b2 : wS.heap.size ≤ b2 := by have := hK.size; omega
 have ge_b2 : w.heap.size ≤ b2 := by have := hB.size; omega
 have ne_b1_b2 : b1 ≠ b2 := by have := hb1.lt; omega
 have sb_b2_o1 := fun x hx => (show x ≠ b2 from by have := (o1.blk x hx).2; omega)
 replace rr := rr.oC k2
 replace hb1 := hb1.oC k2
 replace o1 := o1.oC k2
 replace hB := hB.trans k2
 replace hK := hK.trans k2.weak
 clear eb2 z2
 refine an (bK bm rfl rfl rfl (by simp only [List.forall_mem_cons]; refine ⟨(by first | rfl | exact Rd.one (by first | assumption | exact Own.rd ‹_› | exact Rd.oC ‹_› hB | exact Own.rd (Own.oC ‹_› hB))), (by first | rfl | exact Rd.one (by first | assumption | exact Own.rd ‹_› | exact Rd.oC ‹_› hB | exact Own.rd (Own.oC ‹_› hB))), (by first | rfl | exact Rd.one (by first | assumption | exact Own.rd ‹_› | exact Rd.oC ‹_› hB | exact Own.rd (Own.oC ‹_› hB))), (by first | rfl | exact Rd.one (by first | assumption | exact Own.rd ‹_› | exact Rd.oC ‹_› hB | exact Own.rd (Own.oC ‹_› hB))), (by first | rfl | exact Rd.one (by first | assumption | exact Own.rd ‹_› | exact Rd.oC ‹_› hB | exact Own.rd (Own.oC ‹_› hB))), (by first | rfl | exact Rd.one (by first | assumption | exact Own.rd ‹_› | exact Rd.oC ‹_› hB | exact Own.rd (Own.oC ‹_› hB))), fun v hv => by cases hv⟩) hb2 rfl) ?_
 rintro _ w4 ⟨hb3, k3, z3⟩
 replace rr := rr.keep k3 (fun x hx hm => (fun x (hx : x ≤ r) => (show x ≠ b2 from by omega)) x hx (List.mem_singleton.1 hm))
 replace hb1 := hb1.keep k3 (nm ne_b1_b2)
 replace o1 := o1.keep k3 (fun x hx hm => sb_b2_o1 x hx (List.mem_singleton.1 hm))
 replace hB := hB.new k3 (nw ge_b2)
 replace hK := hK.new k3 (nw geS_b2)
 clear z3
 replace hb3 : Bk w4 b2 _ [v1, .slice none 0 0, .slice none 0 0, .int .i64 0, .slice none 0 0, .slice none 0 0] := hb3
 refine a6 (a5 (aZ (ogm rfl rfl ?_)))
 have lv_km2 := rr.lt
 refine ah (ab (vs := [_]) rfl (bY r ((rVec rest e).2.1) ((rVec rest e).2.2) _ rr)) rfl ?_
 rintro v2 w5 ⟨_, rfl, o2, rr, km2⟩
 have gl_o2 := hB.size
 have sb_b1_o2 := fun x hx => (show x ≠ b1 from by have h1 := (o2.blk x hx).1; have h2 := hb1.lt; omega)
 have sb_b2_o2 := fun x hx => (show x ≠ b2 from by have h1 := (o2.blk x hx).1; have h2 := hb3.lt; omega)
 have gS_o2 := hK.size
 have z_km2 := km2.size
 replace hb1 := hb1.keep km2 (fun hm => by have h9 := List.mem_singleton.1 hm; omega)
 replace o1 := o1.keep km2 (fun x hx hm => by have h9 := List.mem_singleton.1 hm; have h8 := (o1.blk x hx).1; omega)
 replace hb3 := hb3.keep km2 (fun hm => by have h9 := List.mem_singleton.1 hm; omega)
 replace hB := hB.new km2 (fun x hm => .inl (by have h9 := List.mem_singleton.1 hm; omega))
 replace hK := hK.trans km2
 have rr : RdR w5 r (rLeafB rest e).2.1 (rLeafB rest e).2.2 := rr
 replace o2 : OwnB w5 w4.heap.size v2 (rLeafB rest e).1 := o2
 refine a7 (ak aC rfl am (by decide) rfl) rfl (an (bV am rfl rfl (Rd.one (by first | assumption | exact Own.rd ‹_› | exact Rd.oC ‹_› hB | exact Own.rd (Own.oC ‹_› hB))) hb3 rfl) ?_)
 rintro _ w6 ⟨hb4, k4, z4⟩
 replace rr := rr.keep k4 (fun x hx hm => (fun x (hx : x ≤ r) => (show x ≠ b2 from by omega)) x hx (List.mem_singleton.1 hm))
 replace hb1 := hb1.keep k4 (nm ne_b1_b2)
 replace o1 := o1.keep k4 (fun x hx hm => sb_b2_o1 x hx (List.mem_singleton.1 hm))
 replace o2 := o2.keep k4 (fun x hx hm => sb_b2_o2 x hx (List.mem_singleton.1 hm))
 replace hB := hB.new k4 (nw ge_b2)
 replace hK := hK.new k4 (nw geS_b2)
 clear z4
 replace hb4 : Bk w6 b2 _ [v1, v2, .slice none 0 0, .int .i64 0, .slice none 0 0, .slice none 0 0] := hb4
 refine a6 (a5 (aZ (ogm rfl rfl ?_)))
 have lv_km3 := rr.lt
 refine ah (ab (vs := [_]) rfl (bY r ((rLeafB rest e).2.1) ((rLeafB rest e).2.2) _ rr)) rfl ?_
 rintro v3 w7 ⟨_, rfl, o3, rr, km3⟩
 have gl_o3 := hB.size
 have sb_b1_o3 := fun x hx => (show x ≠ b1 from by have h1 := (o3.blk x hx).1; have h2 := hb1.lt; omega)
 have sb_b2_o3 := fun x hx => (show x ≠ b2 from by have h1 := (o3.blk x hx).1; have h2 := hb4.lt; omega)
 have gS_o3 := hK.size
 have z_km3 := km3.size
 replace hb1 := hb1.keep km3 (fun hm => by have h9 := List.mem_singleton.1 hm; omega)
 replace o1 := o1.keep km3 (fun x hx hm => by have h9 := List.mem_singleton.1 hm; have h8 := (o1.blk x hx).1; omega)
 replace o2 := o2.keep km3 (fun x hx hm => by have h9 := List.mem_singleton.1 hm; have h8 := (o2.blk x hx).1; omega)
 replace hb4 := hb4.keep km3 (fun hm => by have h9 := List.mem_singleton.1 hm; omega)
 replace hB := hB.new km3 (fun x hm => .inl (by have h9 := List.mem_singleton.1 hm; omega))
 replace hK := hK.trans km3
 have rr : RdR w7 r (rLeafC rest e).2.1 (rLeafC rest e).2.2 := rr
 replace o3 : OwnB w7 w6.heap.size v3 (rLeafC rest e).1 := o3
 refine a7 (ak aC rfl am (by decide) rfl) rfl (an (bV am rfl rfl (Rd.one (by first | assumption | exact Own.rd ‹_› | exact Rd.oC ‹_› hB | exact Own.rd (Own.oC ‹_› hB))) hb4 rfl) ?_)
 rintro _ w8 ⟨hb5, k5, z5⟩
 replace rr := rr.keep k5 (fun x hx hm => (fun x (hx : x ≤ r) => (show x ≠ b2 from by omega)) x hx (List.mem_singleton.1 hm))
 replace hb1 := hb1.keep k5 (nm ne_b1_b2)
 replace o1 := o1.keep k5 (fun x hx hm => sb_b2_o1 x hx (List.mem_singleton.1 hm))
 replace o2 := o2.keep k5 (fun x hx hm => sb_b2_o2 x hx (List.mem_singleton.1 hm))
 replace o3 := o3.keep k5 (fun x hx hm => sb_b2_o3 x hx (List.mem_singleton.1 hm))
 replace hB := hB.new k5 (nw ge_b2)
 replace hK := hK.new k5 (nw geS_b2)
 clear z5
 replace hb5 : Bk w8 b2 _ [v1, v2, v3, .int .i64 0, .slice none 0 0, .slice none 0 0] := hb5
 refine a6 (a5 (aZ (ogm rfl rfl ?_)))
 have lv_km4 := rr.lt
 refine ah (ab (vs := [_, _]) rfl (iG r ((rLeafC rest e).2.1) ((rLeafC rest e).2.2) _ rr)) rfl ?_
 rintro _ w9 ⟨rfl, rr, km4⟩
 have z_km4 := km4.size
 replace hb1 := hb1.keep km4 (fun hm => by have h9 := List.mem_singleton.1 hm; omega)
 replace o1 := o1.keep km4 (fun x hx hm => by have h9 := List.mem_singleton.1 hm; have h8 := (o1.blk x hx).1; omega)
 replace o2 := o2.keep km4 (fun x hx hm => by have h9 := List.mem_singleton.1 hm; have h8 := (o2.blk x hx).1; omega)
 replace o3 := o3.keep km4 (fun x hx hm => by have h9 := List.mem_singleton.1 hm; have h8 := (o3.blk x hx).1; omega)
 replace hb5 := hb5.keep km4 (fun hm => by have h9 := List.mem_singleton.1 hm; omega)
 replace hB := hB.new km4 (fun x hm => .inl (by have h9 := List.mem_singleton.1 hm; omega))
 replace hK := hK.trans km4
 have rr : RdR w9 r (rLeafD rest e).2.1 (rLeafD rest e).2.2 := rr
 show OW _ _ _ _ _ _ ((14, .int .i64 (rLeafD rest e).1) :: _) _
 refine a7 (ak aC rfl bh (by decide) rfl) rfl (an (bV bh rfl rfl rfl hb5 rfl) ?_)
 rintro _ w10 ⟨hb6, k6, z6⟩
 replace rr := rr.keep k6 (fun x hx hm => (fun x (hx : x ≤ r) => (show x ≠ b2 from by omega)) x hx (List.mem_singleton.1 hm))
 replace hb1 := hb1.keep k6 (nm ne_b1_b2)
 replace o1 := o1.keep k6 (fun x hx hm => sb_b2_o1 x hx (List.mem_singleton.1 hm))
 replace o2 := o2.keep k6 (fun x hx hm => sb_b2_o2 x hx (List.mem_singleton.1 hm))
 replace o3 := o3.keep k6 (fun x hx hm => sb_b2_o3 x hx (List.mem_singleton.1 hm))
 replace hB := hB.new k6 (nw ge_b2)
 replace hK := hK.new k6 (nw geS_b2)
 clear z6
 replace hb6 : Bk w10 b2 _ [v1, v2, v3, .int .i64 (rLeafD rest e).1, .slice none 0 0, .slice none 0 0] := hb6
 refine a6 (af [(0, _), (2, _), (3, _)] ⟨rfl, rfl, rfl, trivial⟩ (a5 (a5 (aZ (a7 (ak aC rfl bh (by decide) rfl) rfl (a7 (ae cY rfl hb6 rfl) rfl (a7 (bE rfl rfl) rfl (a6 (bF rfl (fun hc1 => ?_) (fun hc1 => ?_))))))))))
 ·
  refine aZ (ogm rfl rfl ?_)
  have lv_km5 := rr.lt
  refine ah (ab (vs := [_]) rfl (bY r ((rLeafD rest e).2.1) ((rLeafD rest e).2.2) _ rr)) rfl ?_
  rintro v4 w11 ⟨_, rfl, o4, rr, km5⟩
  have gl_o4 := hB.size
  have sb_b1_o4 := fun x hx => (show x ≠ b1 from by have h1 := (o4.blk x hx).1; have h2 := hb1.lt; omega)
  have sb_b2_o4 := fun x hx => (show x ≠ b2 from by have h1 := (o4.blk x hx).1; have h2 := hb6.lt; omega)
  have gS_o4 := hK.size
  have z_km5 := km5.size
  replace hb1 := hb1.keep km5 (fun hm => by have h9 := List.mem_singleton.1 hm; omega)
  replace o1 := o1.keep km5 (fun x hx hm => by have h9 := List.mem_singleton.1 hm; have h8 := (o1.blk x hx).1; omega)
  replace o2 := o2.keep km5 (fun x hx hm => by have h9 := List.mem_singleton.1 hm; have h8 := (o2.blk x hx).1; omega)
  replace o3 := o3.keep km5 (fun x hx hm => by have h9 := List.mem_singleton.1 hm; have h8 := (o3.blk x hx).1; omega)
  replace hb6 := hb6.keep km5 (fun hm => by have h9 := List.mem_singleton.1 hm; omega)
  replace hB := hB.new km5 (fun x hm => .inl (by have h9 := List.mem_singleton.1 hm; omega))
  replace hK := hK.trans km5
  have rr : RdR w11 r (rLeafH rest e).2.1 (rLeafH rest e).2.2 := by rw [di ‹_›]; exact rr
  replace o4 : OwnB w11 w10.heap.size v4 (rLeafH rest e).1 := by rw [di ‹_›]; exact o4
  refine a7 (ak aC rfl am (by decide) rfl) rfl (an (bV am rfl rfl (Rd.one (by first | assumption | exact Own.rd ‹_› | exact Rd.oC ‹_› hB | exact Own.rd (Own.oC ‹_› hB))) hb6 rfl) ?_)
  rintro _ w12 ⟨hb7, k7, z7⟩
  replace rr := rr.keep k7 (fun x hx hm => (fun x (hx : x ≤ r) => (show x ≠ b2 from by omega)) x hx (List.mem_singleton.1 hm))
  replace hb1 := hb1.keep k7 (nm ne_b1_b2)
  replace o1 := o1.keep k7 (fun x hx hm => sb_b2_o1 x hx (List.mem_singleton.1 hm))
  replace o2 := o2.keep k7 (fun x hx hm => sb_b2_o2 x hx (List.mem_singleton.1 hm))
  replace o3 := o3.keep k7 (fun x hx hm => sb_b2_o3 x hx (List.mem_singleton.1 hm))
  replace o4 := o4.keep k7 (fun x hx hm => sb_b2_o4 x hx (List.mem_singleton.1 hm))
  replace hB := hB.new k7 (nw ge_b2)
  replace hK := hK.new k7 (nw geS_b2)
  clear z7
  replace hb7 : Bk w12 b2 _ [v1, v2, v3, .int .i64 (rLeafD rest e).1, v4, .slice none 0 0] := hb7
  refine a6 (a5 (aZ (ogm rfl rfl ?_)))
  have lv_km6 := rr.lt
  refine ah (ab (vs := [_]) rfl (bY r ((rLeafH rest e).2.1) ((rLeafH rest e).2.2) _ rr)) rfl ?_
  rintro v5 w13 ⟨_, rfl, o5, rr, km6⟩
  have gl_o5 := hB.size
  have sb_b1_o5 := fun x hx => (show x ≠ b1 from by have h1 := (o5.blk x hx).1; have h2 := hb1.lt; omega)
  have sb_b2_o5 := fun x hx => (show x ≠ b2 from by have h1 := (o5.blk x hx).1; have h2 := hb7.lt; omega)
  have gS_o5 := hK.size
  have z_km6 := km6.size
  replace hb1 := hb1.keep km6 (fun hm => by have h9 := List.mem_singleton.1 hm; omega)
  replace o1 := o1.keep km6 (fun x hx hm => by have h9 := List.mem_singleton.1 hm; have h8 := (o1.blk x hx).1; omega)
  replace o2 := o2.keep km6 (fun x hx hm => by have h9 := List.mem_singleton.1 hm; have h8 := (o2.blk x hx).1; omega)
  replace o3 := o3.keep km6 (fun x hx hm => by have h9 := List.mem_singleton.1 hm; have h8 := (o3.blk x hx).1; omega)
  replace o4 := o4.keep km6 (fun x hx hm => by have h9 := List.mem_singleton.1 hm; have h8 := (o4.blk x hx).1; omega)
  replace hb7 := hb7.keep km6 (fun hm => by have h9 := List.mem_singleton.1 hm; omega)
  replace hB := hB.new km6 (fun x hm => .inl (by have h9 := List.mem_singleton.1 hm; omega))
  replace hK := hK.trans km6
  have rr : RdR w13 r (rLeafG rest e).2.1 (rLeafG rest e).2.2 := rr
  replace o5 : OwnB w13 w12.heap.size v5 (rLeafG rest e).1 := o5
  refine a7 (ak aC rfl am (by decide) rfl) rfl (an (bV am rfl rfl (Rd.one (by first | assumption | exact Own.rd ‹_› | exact Rd.oC ‹_› hB | exact Own.rd (Own.oC ‹_› hB))) hb7 rfl) ?_)
  rintro _ w14 ⟨hb8, k8, z8⟩
  replace rr := rr.keep k8 (fun x hx hm => (fun x (hx : x ≤ r) => (show x ≠ b2 from by omega)) x hx (List.mem_singleton.1 hm))
  replace hb1 := hb1.keep k8 (nm ne_b1_b2)
  replace o1 := o1.keep k8 (fun x hx hm => sb_b2_o1 x hx (List.mem_singleton.1 hm))
  replace o2 := o2.keep k8 (fun x hx hm => sb_b2_o2 x hx (List.mem_singleton.1 hm))
  replace o3 := o3.keep k8 (fun x hx hm => sb_b2_o3 x hx (List.mem_singleton.1 hm))
  replace o4 := o4.keep k8 (fun x hx hm => sb_b2_o4 x hx (List.mem_singleton.1 hm))
  replace o5 := o5.keep k8 (fun x hx hm => sb_b2_o5 x hx (List.mem_singleton.1 hm))
  replace hB := hB.new k8 (nw ge_b2)
  replace hK := hK.new k8 (nw geS_b2)
  clear z8
  replace hb8 : Bk w14 b2 _ [v1, v2, v3, .int .i64 (rLeafD rest e).1, v4, v5] := hb8
  refine a6 (af [(2, _), (3, _)] ⟨rfl, rfl, trivial⟩ (a5 (aZ (a7 (au (cs' := [_, _, _, _, _, _]) fB bm rfl hb8 rfl rfl) rfl (an (bK bm rfl rfl rfl (by simp only [List.forall_mem_cons]; refine ⟨(by first | rfl | exact Rd.one (by first | assumption | exact Own.rd ‹_› | exact Rd.oC ‹_› hB | exact Own.rd (Own.oC ‹_› hB))), (by first | rfl | exact Rd.one (by first | assumption | exact Own.rd ‹_› | exact Rd.oC ‹_› hB | exact Own.rd (Own.oC ‹_› hB))), (by first | rfl | exact Rd.one (by first | assumption | exact Own.rd ‹_› | exact Rd.oC ‹_› hB | exact Own.rd (Own.oC ‹_› hB))), (by first | rfl | exact Rd.one (by first | assumption | exact Own.rd ‹_› | exact Rd.oC ‹_› hB | exact Own.rd (Own.oC ‹_› hB))), (by first | rfl | exact Rd.one (by first | assumption | exact Own.rd ‹_› | exact Rd.oC ‹_› hB | exact Own.rd (Own.oC ‹_› hB))), (by first | rfl | exact Rd.one (by first | assumption | exact Own.rd ‹_› | exact Rd.oC ‹_› hB | exact Own.rd (Own.oC ‹_› hB))), fun v hv => by cases hv⟩) hb1 rfl) ?_)))))
  rintro _ w15 ⟨hb9, k9, z9⟩
  replace rr := rr.keep k9 (fun x hx hm => (fun x (hx : x ≤ r) => (show x ≠ b1 from by omega)) x hx (List.mem_singleton.1 hm))
  replace o1 := o1.keep k9 (fun x hx hm => sb_b1_o1 x hx (List.mem_singleton.1 hm))
  replace o2 := o2.keep k9 (fun x hx hm => sb_b1_o2 x hx (List.mem_singleton.1 hm))
  replace o3 := o3.keep k9 (fun x hx hm => sb_b1_o3 x hx (List.mem_singleton.1 hm))
  replace o4 := o4.keep k9 (fun x hx hm => sb_b1_o4 x hx (List.mem_singleton.1 hm))
  replace o5 := o5.keep k9 (fun x hx hm => sb_b1_o5 x hx (List.mem_singleton.1 hm))
  replace hb8 := hb8.keep k9 (nm (Ne.symm ne_b1_b2))
  replace hB := hB.new k9 (nw ge_b1)
  replace hK := hK.new k9 (nw geS_b1)
  clear z9
  replace hb9 : Bk w15 b1 _ [v1, v2, v3, .int .i64 (rLeafD rest e).1, v4, v5] := hb9
  refine a6 (dw hfin Try.results87 rfl (ar fB bm hb9 rfl)  ?_)
  exact ⟨_, _, _, _, _, rfl, o1.lo gS_o1, o2.lo gS_o2, o3.lo gS_o3, (o4.lo gS_o4), o5.lo gS_o5, rr, hB, hK⟩
 ·
  refine aj (a5 (aZ (ogm rfl rfl ?_)))
  have rr : RdR w10 r (rLeafH rest e).2.1 (rLeafH rest e).2.2 := by rw [dh ‹_›]; exact rr
  have lv_km7 := rr.lt
  refine ah (ab (vs := [_]) rfl (bY r ((rLeafH rest e).2.1) ((rLeafH rest e).2.2) _ rr)) rfl ?_
  rintro v6 w16 ⟨_, rfl, o6, rr, km7⟩
  have gl_o6 := hB.size
  have sb_b1_o6 := fun x hx => (show x ≠ b1 from by have h1 := (o6.blk x hx).1; have h2 := hb1.lt; omega)
  have sb_b2_o6 := fun x hx => (show x ≠ b2 from by have h1 := (o6.blk x hx).1; have h2 := hb6.lt; omega)
  have gS_o6 := hK.size
  have z_km7 := km7.size
  replace hb1 := hb1.keep km7 (fun hm => by have h9 := List.mem_singleton.1 hm; omega)
  replace o1 := o1.keep km7 (fun x hx hm => by have h9 := List.mem_singleton.1 hm; have h8 := (o1.blk x hx).1; omega)
  replace o2 := o2.keep km7 (fun x hx hm => by have h9 := List.mem_singleton.1 hm; have h8 := (o2.blk x hx).1; omega)
  replace o3 := o3.keep km7 (fun x hx hm => by have h9 := List.mem_singleton.1 hm; have h8 := (o3.blk x hx).1; omega)
  replace hb6 := hb6.keep km7 (fun hm => by have h9 := List.mem_singleton.1 hm; omega)
  replace hB := hB.new km7 (fun x hm => .inl (by have h9 := List.mem_singleton.1 hm; omega))
  replace hK := hK.trans km7
  have rr : RdR w16 r (rLeafG rest e).2.1 (rLeafG rest e).2.2 := rr
  replace o6 : OwnB w16 w10.heap.size v6 (rLeafG rest e).1 := o6
  refine a7 (ak aC rfl am (by decide) rfl) rfl (an (bV am rfl rfl (Rd.one (by first | assumption | exact Own.rd ‹_› | exact Rd.oC ‹_› hB | exact Own.rd (Own.oC ‹_› hB))) hb6 rfl) ?_)
  rintro _ w17 ⟨hb10, k10, z10⟩
  replace rr := rr.keep k10 (fun x hx hm => (fun x (hx : x ≤ r) => (show x ≠ b2 from by omega)) x hx (List.mem_singleton.1 hm))
  replace hb1 := hb1.keep k10 (nm ne_b1_b2)
  replace o1 := o1.keep k10 (fun x hx hm => sb_b2_o1 x hx (List.mem_singleton.1 hm))
  replace o2 := o2.keep k10 (fun x hx hm => sb_b2_o2 x hx (List.mem_singleton.1 hm))
  replace o3 := o3.keep k10 (fun x hx hm => sb_b2_o3 x hx (List.mem_singleton.1 hm))
  replace o6 := o6.keep k10 (fun x hx hm => sb_b2_o6 x hx (List.mem_singleton.1 hm))
  replace hB := hB.new k10 (nw ge_b2)
  replace hK := hK.new k10 (nw geS_b2)
  clear z10
  replace hb10 : Bk w17 b2 _ [v1, v2, v3, .int .i64 (rLeafD rest e).1, .slice none 0 0, v6] := hb10
  refine a6 (a5 (aZ (a7 (au (cs' := [_, _, _, _, _, _]) fB bm rfl hb10 rfl rfl) rfl (an (bK bm rfl rfl rfl (by simp only [List.forall_mem_cons]; refine ⟨(by first | rfl | exact Rd.one (by first | assumption | exact Own.rd ‹_› | exact Rd.oC ‹_› hB | exact Own.rd (Own.oC ‹_› hB))), (by first | rfl | exact Rd.one (by first | assumption | exact Own.rd ‹_› | exact Rd.oC ‹_› hB | exact Own.rd (Own.oC ‹_› hB))), (by first | rfl | exact Rd.one (by first | assumption | exact Own.rd ‹_› | exact Rd.oC ‹_› hB | exact Own.rd (Own.oC ‹_› hB))), (by first | rfl | exact Rd.one (by first | assumption | exact Own.rd ‹_› | exact Rd.oC ‹_› hB | exact Own.rd (Own.oC ‹_› hB))), (by first | rfl | exact Rd.one (by first | assumption | exact Own.rd ‹_› | exact Rd.oC ‹_› hB | exact Own.rd (Own.oC ‹_› hB))), (by first | rfl | exact Rd.one (by first | assumption | exact Own.rd ‹_› | exact Rd.oC ‹_› hB | exact Own.rd (Own.oC ‹_› hB))), fun v hv => by cases hv⟩) hb1 rfl) ?_))))
  rintro _ w18 ⟨hb11, k11, z11⟩
  replace rr := rr.keep k11 (fun x hx hm => (fun x (hx : x ≤ r) => (show x ≠ b1 from by omega)) x hx (List.mem_singleton.1 hm))
  replace o1 := o1.keep k11 (fun x hx hm => sb_b1_o1 x hx (List.mem_singleton.1 hm))
  replace o2 := o2.keep k11 (fun x hx hm => sb_b1_o2 x hx (List.mem_singleton.1 hm))
  replace o3 := o3.keep k11 (fun x hx hm => sb_b1_o3 x hx (List.mem_singleton.1 hm))
  replace o6 := o6.keep k11 (fun x hx hm => sb_b1_o6 x hx (List.mem_singleton.1 hm))
  replace hb10 := hb10.keep k11 (nm (Ne.symm ne_b1_b2))
  replace hB := hB.new k11 (nw ge_b1)
  replace hK := hK.new k11 (nw geS_b1)
  clear z11
  replace hb11 : Bk w18 b1 _ [v1, v2, v3, .int .i64 (rLeafD rest e).1, .slice none 0 0, v6] := hb11
  refine a6 (dw hfin Try.results87 rfl (ar fB bm hb11 rfl)  ?_)
  exact ⟨_, _, _, _, _, rfl, o1.lo gS_o1, o2.lo gS_o2, o3.lo gS_o3, (by show OwnB _ _ _ (rLeafH rest e).1; rw [dh ‹_›]; exact a8 _ _ _ _), o6.lo gS_o6, rr, hB, hK⟩
end Go.Proofs.Ytonchmcppekldaa.W
namespace Go.Byt
theorem en {b n : Int} {s : Nat} (hb : ¬ b < 0) (h0 : 0 ≤ n) (h1 : n < 256 ^ s) (r : List UInt8) (h8 : (s : Int) = 8 → ((be n s ++ r).getD 0 0).toNat < 64) : rNum b (be n s ++ r) 0 (s : Int) = (n, r, 0) := by
 unfold rNum
 have hl : (be n s).length = s := bi _ _
 rw [if_neg (by decide), if_neg hb, if_neg (by rw [List.length_append, hl]; omega), if_neg (fun h => by have := h8 h.1; omega), Int.toNat_natCast, List.take_left' hl, List.drop_left' hl, lL s n h0 h1]
theorem gA {b n e : Int} {s : Nat} {rest r : List UInt8} (hb : ¬ b < 0) (h : rNum b rest e (s : Int) = (n, r, 0)) : e = 0 ∧ rest = be n s ++ r ∧ 0 ≤ n ∧ n < 256 ^ s := by
 unfold rNum at h
 by_cases he : e = 0
 · subst he
   rw [if_neg (by decide), if_neg hb] at h
   by_cases hl : (rest.length : Int) < (s : Int)
   · rw [if_pos hl] at h; simp at h
   · rw [if_neg hl] at h
     by_cases h8 : (s : Int) = 8 ∧ 64 ≤ (rest.getD 0 0).toNat
     · rw [if_pos h8] at h; simp at h
     · rw [if_neg h8, Int.toNat_natCast] at h
       simp only [Prod.mk.injEq] at h
       obtain ⟨h1, h2, _⟩ := h
       have hlen : (rest.take s).length = s := by rw [List.length_take]; omega
       have hbn := fW (rest.take s)
       have hbe := ia (rest.take s)
       rw [hlen] at hbn hbe
       rw [h1] at hbn hbe
       exact ⟨rfl, by rw [hbe, ← h2, List.take_append_drop], hbn.1, hbn.2⟩
 · rw [if_pos he] at h; simp at h; exact absurd h.2.2 he
end Go.Byt
namespace Go.Eng
open Go Go.Byt
theorem dn (r : List UInt8) (e : Int) : rEnd r e = 0 ↔ r = [] ∧ e = 0 := by
 unfold rEnd
 by_cases he : e = 0
 · subst he
   cases r with
   | nil => simp
   | cons x r => simp
 · simp [he]
theorem cJ {rest : List UInt8} {e : Int} (h : (rVec rest e).2.2 = 0) : e = 0 ∧ rest = vec (rVec rest e).1 ++ (rVec rest e).2.1 := by
 have h' : rVec rest e = ((rVec rest e).1, (rVec rest e).2.1, 0) := Prod.ext rfl (Prod.ext rfl h)
 have := fJ h'
 exact ⟨this.1, this.2.1⟩
theorem eN {b : Int} {s : Nat} {rest : List UInt8} {e : Int} (hb : ¬ b < 0) (h : (rNum b rest e (s : Int)).2.2 = 0) : e = 0 ∧ rest = be (rNum b rest e (s : Int)).1 s ++ (rNum b rest e (s : Int)).2.1 := by
 have h' : rNum b rest e (s : Int) = ((rNum b rest e (s : Int)).1, (rNum b rest e (s : Int)).2.1, 0) := Prod.ext rfl (Prod.ext rfl h)
 have := gA hb h'
 exact ⟨this.1, this.2.1⟩
theorem fg {rest : List UInt8} {e : Int} (h : (rLeaf rest e).2.2 = 0) : e = 0 ∧ rest = leafB (rLeaf rest e).1 ++ (rLeaf rest e).2.1 := by
 have hg : (rVec (rLeafH rest e).2.1 (rLeafH rest e).2.2).2.2 = 0 := h
 obtain ⟨g1, g2⟩ := cJ hg
 have hd : (rLeafD rest e).2.2 = 0 ∧ (rLeafD rest e).2.1 = (if (rLeafD rest e).1 = 3 then vec (rLeafH rest e).1 else []) ++ (rLeafH rest e).2.1 := by
   by_cases h3 : (rLeafD rest e).1 = 3
   · rw [di h3] at g1 ⊢
     obtain ⟨a1, a2⟩ := cJ g1
     rw [if_pos h3]; exact ⟨a1, a2⟩
   · rw [dh h3] at g1 ⊢
     rw [if_neg h3]; exact ⟨g1, rfl⟩
 obtain ⟨d1, d2⟩ := hd
 have d3 : (rNum 8 (rLeafC rest e).2.1 (rLeafC rest e).2.2 ((1 : Nat) : Int)).2.2 = 0 := d1
 obtain ⟨c1, c2⟩ := eN (by decide) d3
 have c3 : (rVec (rLeafB rest e).2.1 (rLeafB rest e).2.2).2.2 = 0 := c1
 obtain ⟨b1, b2⟩ := cJ c3
 have b3 : (rVec (rVec rest e).2.1 (rVec rest e).2.2).2.2 = 0 := b1
 obtain ⟨a1, a2⟩ := cJ b3
 obtain ⟨z1, z2⟩ := cJ a1
 refine ⟨z1, ?_⟩
 have e1 : (rVec rest e).2.1 = vec (rLeafB rest e).1 ++ (rLeafB rest e).2.1 := a2
 have e2 : (rLeafB rest e).2.1 = vec (rLeafC rest e).1 ++ (rLeafC rest e).2.1 := b2
 have e3 : (rLeafC rest e).2.1 = be (rLeafD rest e).1 1 ++ (rLeafD rest e).2.1 := c2
 have e4 : (rLeafH rest e).2.1 = vec (rLeafG rest e).1 ++ (rLeafG rest e).2.1 := g2
 have : leafB (rLeaf rest e).1 ++ (rLeaf rest e).2.1 = vec (rVec rest e).1 ++ (vec (rLeafB rest e).1 ++ (vec (rLeafC rest e).1 ++ (be (rLeafD rest e).1 1 ++ ((if (rLeafD rest e).1 = 3 then vec (rLeafH rest e).1 else []) ++ (vec (rLeafG rest e).1 ++ (rLeafG rest e).2.1))))) := by
   show (leafBare (rLeaf rest e).1 ++ vec (rLeafG rest e).1) ++ (rLeafG rest e).2.1 = _
   unfold leafBare
   simp only [rLeaf, List.append_assoc]
   rfl
 rw [this, ← e4, ← d2, ← e3, ← e2, ← e1]; exact z2
theorem kR (c : List UInt8) : glOk c = (decide (rEnd (rLeaf c 0).2.1 (rLeaf c 0).2.2 = 0) && leafOk (rLeaf c 0).1) := by
 unfold glOk
 by_cases h : rEnd (rLeaf c 0).2.1 (rLeaf c 0).2.2 = 0
 · obtain ⟨h1, h2⟩ := (dn _ _).1 h
   have := (fg h2).2
   rw [h1, List.append_nil] at this
   rw [decide_eq_true this.symm, Bool.and_true]
 · rw [decide_eq_false h]; rfl
def gdA (c : List UInt8) := rNum 16 c 0 2
def gdB (c : List UInt8) := rNum 16 (gdA c).2.1 (gdA c).2.2 2
def gdI (c : List UInt8) := rVec (gdB c).2.1 (gdB c).2.2
def gdL (c : List UInt8) := rLeaf (gdI c).2.1 (gdI c).2.2
def gdG (c : List UInt8) := rVec (gdL c).2.1 (gdL c).2.2
def gdP (c : List UInt8) : Pk := ⟨(gdI c).1, (gdL c).1, (gdG c).1⟩
def gdOk (c : List UInt8) : Bool := decide (rEnd (gdG c).2.1 (gdG c).2.2 = 0) && decide ((gdA c).1 = 1) && decide ((gdB c).1 = 1) && pkOk (gdP c)
theorem gd_len (c : List UInt8) : (gdA c).2.1.length ≤ c.length ∧ (gdB c).2.1.length ≤ c.length ∧ (gdI c).2.1.length ≤ c.length ∧ (gdL c).2.1.length ≤ c.length ∧ (gdG c).2.1.length ≤ c.length := by
 have h0 : (gdA c).2.1.length ≤ _ := dH 16 c 0 2
 have h1 : (gdB c).2.1.length ≤ _ := dH 16 (gdA c).2.1 (gdA c).2.2 2
 have h2 : (gdI c).2.1.length ≤ _ := bS (gdB c).2.1 (gdB c).2.2
 have h3 : (gdL c).2.1.length ≤ (gdI c).2.1.length := (fU (gdI c).2.1 (gdI c).2.2).2.2.2.2
 have h4 : (gdG c).2.1.length ≤ _ := bS (gdL c).2.1 (gdL c).2.2
 omega
theorem gw {c : List UInt8} (h : (gdG c).2.2 = 0) : c = be (gdA c).1 2 ++ (be (gdB c).1 2 ++ (vec (gdP c).init ++ (leafB (gdP c).leaf ++ (vec (gdP c).sg ++ (gdG c).2.1)))) ∧ (gdB c).2.2 = 0 := by
 obtain ⟨g1, g2⟩ := cJ (show (rVec (gdL c).2.1 (gdL c).2.2).2.2 = 0 from h)
 obtain ⟨l1, l2⟩ := fg (show (rLeaf (gdI c).2.1 (gdI c).2.2).2.2 = 0 from g1)
 obtain ⟨i1, i2⟩ := cJ (show (rVec (gdB c).2.1 (gdB c).2.2).2.2 = 0 from l1)
 obtain ⟨b1, b2⟩ := eN (s := 2) (b := 16) (by decide) (show (rNum 16 (gdA c).2.1 (gdA c).2.2 ((2 : Nat) : Int)).2.2 = 0 from i1)
 obtain ⟨a1, a2⟩ := eN (s := 2) (b := 16) (by decide) (show (rNum 16 c 0 ((2 : Nat) : Int)).2.2 = 0 from b1)
 refine ⟨?_, i1⟩
 have e1 : (gdA c).2.1 = be (gdB c).1 2 ++ (gdB c).2.1 := b2
 have e2 : (gdB c).2.1 = vec (gdI c).1 ++ (gdI c).2.1 := i2
 have e3 : (gdI c).2.1 = leafB (gdL c).1 ++ (gdL c).2.1 := l2
 have e4 : (gdL c).2.1 = vec (gdG c).1 ++ (gdG c).2.1 := g2
 show c = be (gdA c).1 2 ++ (be (gdB c).1 2 ++ (vec (gdI c).1 ++ (leafB (gdL c).1 ++ (vec (gdG c).1 ++ (gdG c).2.1))))
 rw [← e4, ← e3, ← e2, ← e1]; exact a2
theorem gp_same {c : List UInt8} (h : 4 ≤ c.length) : (gdB c).2 = (gpH c).2 := by
 have hA : gdA c = (num (c.take 2), c.drop 2, 0) := by
   unfold gdA rNum; rw [if_neg (by decide), if_neg (by decide), if_neg (by omega), if_neg (by omega)]; rfl
 have hB : gdB c = (num ((c.drop 2).take 2), (c.drop 2).drop 2, 0) := by
   unfold gdB; rw [hA]; unfold rNum; dsimp only; rw [if_neg (by decide), if_neg (by decide), if_neg (by rw [List.length_drop]; omega), if_neg (by omega)]; rfl
 have hH : gpH c = (num (c.take 4), c.drop 4, 0) := by
   unfold gpH rNum; rw [if_neg (by decide), if_neg (by decide), if_neg (by omega), if_neg (by omega)]; rfl
 rw [hB, hH]
 show ((c.drop 2).drop 2, (0 : Int)) = (c.drop 4, 0)
 rw [List.drop_drop]
theorem nh {c : List UInt8} (h : ¬ 4 ≤ c.length) : (gpH c).2.2 ≠ 0 := by
 unfold gpH rNum
 rw [if_neg (by decide), if_neg (by decide), if_pos (by omega)]
 simp
theorem be12 : be 1 2 = [0, 1] := by decide
theorem kP (c : List UInt8) : gpOk c = gdOk c ∧ (gdOk c = true → gdP c = gpP c) := by
 by_cases h4 : 4 ≤ c.length
 · have e := gp_same h4
   have eI : gpI c = gdI c := by unfold gpI gdI; rw [e]
   have eL : gpL c = gdL c := by unfold gpL gdL; rw [eI]
   have eG : gpG c = gdG c := by unfold gpG gdG; rw [eL]
   have eP : gpP c = gdP c := by unfold gpP gdP; rw [eI, eL, eG]
   refine ⟨?_, fun _ => eP.symm⟩
   unfold gpOk gdOk
   rw [eG, eP]
   by_cases h : rEnd (gdG c).2.1 (gdG c).2.2 = 0
   · obtain ⟨h1, h2⟩ := (dn _ _).1 h
     obtain ⟨s1, _⟩ := gw h2
     rw [h1, List.append_nil] at s1
     rw [decide_eq_true h, Bool.true_and, Bool.true_and]
     have hpk : pkB (gdP c) = [0, 1] ++ ([0, 1] ++ (vec (gdP c).init ++ (leafB (gdP c).leaf ++ vec (gdP c).sg))) := by unfold pkB pkOffer; simp
     by_cases hv : (gdA c).1 = 1 ∧ (gdB c).1 = 1
     · rw [decide_eq_true hv.1, decide_eq_true hv.2]
       rw [hv.1, hv.2, be12, ← hpk] at s1
       rw [decide_eq_true s1.symm]; simp
     · have hn : pkB (gdP c) ≠ c := by
         intro hc
         rw [hpk] at hc
         replace hc := hc.trans s1
         have t1 := congrArg (List.take 2) hc
         rw [List.take_left' (show ([0, 1] : List UInt8).length = 2 from rfl), List.take_left' (bi _ _)] at t1
         have t2 := congrArg (List.drop 2) hc
         rw [List.drop_left' (show ([0, 1] : List UInt8).length = 2 from rfl), List.drop_left' (bi _ _)] at t2
         have t3 := congrArg (List.take 2) t2
         rw [List.take_left' (show ([0, 1] : List UInt8).length = 2 from rfl), List.take_left' (bi _ _)] at t3
         have hA : (gdA c).1 = 1 := by
           have hb := (gA (s := 2) (b := 16) (rest := c) (e := 0) (by decide) (Prod.ext rfl (Prod.ext rfl (by
             have := (eN (s := 2) (b := 16) (by decide) (show (rNum 16 (gdA c).2.1 (gdA c).2.2 ((2 : Nat) : Int)).2.2 = 0 from (gw h2).2)).1
             exact this)))).2.2
           exact nx (k := 2) (t1.symm.trans be12.symm) hb.1 hb.2 (by decide) (by decide)
         have hB : (gdB c).1 = 1 := by
           have hb := (gA (s := 2) (b := 16) (rest := (gdA c).2.1) (e := (gdA c).2.2) (by decide) (Prod.ext rfl (Prod.ext rfl (gw h2).2))).2.2
           exact nx (k := 2) (t3.symm.trans be12.symm) hb.1 hb.2 (by decide) (by decide)
         exact hv ⟨hA, hB⟩
       rw [decide_eq_false hn, Bool.and_false]
       symm
       by_cases ha : (gdA c).1 = 1
       · rw [decide_eq_false (fun hb => hv ⟨ha, hb⟩)]; simp
       · rw [decide_eq_false ha]; simp
   · rw [decide_eq_false h]; rfl
 · have hs := nh h4
   have no : ∀ {r : List UInt8} {e : Int}, e ≠ 0 → (rVec r e).2.2 ≠ 0 := fun he h => he (cJ h).1
   have nol : ∀ {r : List UInt8} {e : Int}, e ≠ 0 → (rLeaf r e).2.2 ≠ 0 := fun he h => he (fg h).1
   have hg : (gpG c).2.2 ≠ 0 := no (nol (no hs))
   have hd : (gdG c).2.2 ≠ 0 := by
     intro h
     obtain ⟨s1, _⟩ := gw h
     have := congrArg List.length s1
     simp only [List.length_append, bi] at this
     omega
   have g1 : gpOk c = false := by unfold gpOk; rw [decide_eq_false (fun h => hg ((dn _ _).1 h).2)]; rfl
   have g2 : gdOk c = false := by unfold gdOk; rw [decide_eq_false (fun h => hd ((dn _ _).1 h).2)]; rfl
   exact ⟨by rw [g1, g2], fun h => by rw [g2] at h; cases h⟩
end Go.Eng
namespace Go.Proofs.Ytonchmcppekldaa.W
open Go Go.Eng Go.Byt
theorem jV (v : Value) (c : List UInt8) (w : World) (hv : RdB w v c) (hc : c.length ≤ 140737488351232) : Rets Try.prog 46 [v] w (fun r w' => ∃ e s n h g, r = .tuple #[.agg [e, s, n, .int .i64 (glR c).src, h, g].toArray, .int .i64 (glE c)] ∧ OwnB w' w.heap.size e (glR c).enc ∧ OwnB w' w.heap.size s (glR c).sig ∧ OwnB w' w.heap.size n (glR c).name ∧ OwnB w' w.heap.size h (glR c).hash ∧ OwnB w' w.heap.size g (glR c).sg ∧ Keep [] w w') := by
 have hB : Keep [] w w := Keep.refl _ _
 refine ai Try.func46 rfl (by decide) Try.ntmps46 rfl (fun fin _ hfin => a5 (aZ (ah (bG bm) rfl ?_)))
 rintro _ w1 ⟨b1, rfl, eb1, hb1, k1, z1⟩
 have ge_b1 : w.heap.size ≤ b1 := by have := hB.size; omega
 replace hB := hB.trans k1
 clear eb1 z1
 refine oga rfl rfl (a6 (a5 (aZ (ogm rfl rfl ?_))))
 have zb1 := hb1.lt
 have hs8 := hB.size
 refine ah (ab (vs := [_]) rfl (eK _ c _ (hv.oC hB) (by omega))) rfl ?_
 rintro _ w2 ⟨p1, rfl, rr, k2⟩
 obtain ⟨hB, hb1⟩ := bX k2 hB hb1
 have gp1 := rr.1
 replace rr := rr.rdr
 have hp1 : b1 < p1 := by omega
 refine oga rfl rfl (a6 (a5 (aZ (ogm rfl rfl ?_))))
 have lbR := hb1.lt
 have gwR := hB.size
 have lvR := rr.lt
 refine ah (ab (vs := [_]) rfl (f6 w _ hB p1 c 0 (by omega) rr (by omega))) rfl ?_
 rintro _ w3 ⟨e1, s1, n1, h1, g1, rfl, o61, o62, o63, o64, o65, rr, hB2, km1⟩
 replace hB := hB2
 have z_km1 := km1.size
 replace hb1 := hb1.keep km1 (fun hm => by have h9 := List.mem_singleton.1 hm; omega)
 have rr : RdR w3 p1 (rLeaf c 0).2.1 (rLeaf c 0).2.2 := rr
 show OW _ _ _ _ _ _ ((9, .agg [e1, s1, n1, .int .i64 (rLeaf c 0).1.src, h1, g1].toArray) :: _) _
 have lr5 := rr.lt
 have lt_o61 := fun x hx => (o61.blk x hx).2
 have lt_o62 := fun x hx => (o62.blk x hx).2
 have lt_o63 := fun x hx => (o63.blk x hx).2
 have lt_o64 := fun x hx => (o64.blk x hx).2
 have lt_o65 := fun x hx => (o65.blk x hx).2
 refine ah (bG bm) rfl ?_
 rintro _ w4 ⟨b2, rfl, eb2, hb2, k3, z2⟩
 have rlt5 : p1 < b2 := by omega
 have ebk := eb2
 have ge_b2 : w.heap.size ≤ b2 := by have := hB.size; omega
 have ne_b1_b2 : b1 ≠ b2 := by have := hb1.lt; omega
 replace hb1 := hb1.oC k3
 replace rr := rr.oC k3
 replace o61 := o61.oC k3
 replace o62 := o62.oC k3
 replace o63 := o63.oC k3
 replace o64 := o64.oC k3
 replace o65 := o65.oC k3
 replace hB := hB.trans k3
 clear eb2 z2
 refine an (bK bm rfl rfl rfl (by simp only [List.forall_mem_cons]; exact ⟨o61.rd.one, o62.rd.one, o63.rd.one, rfl, o64.rd.one, o65.rd.one, fun v hv => by cases hv⟩) hb2 rfl) ?_
 rintro _ w5 ⟨hb3, k4, z3⟩
 replace hb1 := hb1.keep k4 (nm ne_b1_b2)
 replace rr := rr.keep k4 (fun x hx hm => (fun x (hx : x ≤ p1) => (show x ≠ b2 from by omega)) x hx (List.mem_singleton.1 hm))
 replace o61 := o61.keep k4 (fun x hx hm => (fun x hx => Nat.ne_of_lt (Nat.lt_of_lt_of_le (lt_o61 x hx) (Nat.le_of_eq ebk.symm))) x hx (List.mem_singleton.1 hm))
 replace o62 := o62.keep k4 (fun x hx hm => (fun x hx => Nat.ne_of_lt (Nat.lt_of_lt_of_le (lt_o62 x hx) (Nat.le_of_eq ebk.symm))) x hx (List.mem_singleton.1 hm))
 replace o63 := o63.keep k4 (fun x hx hm => (fun x hx => Nat.ne_of_lt (Nat.lt_of_lt_of_le (lt_o63 x hx) (Nat.le_of_eq ebk.symm))) x hx (List.mem_singleton.1 hm))
 replace o64 := o64.keep k4 (fun x hx hm => (fun x hx => Nat.ne_of_lt (Nat.lt_of_lt_of_le (lt_o64 x hx) (Nat.le_of_eq ebk.symm))) x hx (List.mem_singleton.1 hm))
 replace o65 := o65.keep k4 (fun x hx hm => (fun x hx => Nat.ne_of_lt (Nat.lt_of_lt_of_le (lt_o65 x hx) (Nat.le_of_eq ebk.symm))) x hx (List.mem_singleton.1 hm))
 replace hB := hB.new k4 (nw ge_b2)
 clear z3
 replace hb3 : Bk w5 b2 _ [e1, s1, n1, .int .i64 (rLeaf c 0).1.src, h1, g1] := hb3
 refine a6 (a5 (a5 (aZ (ogm rfl rfl (ah (ab (vs := [_]) rfl (cl _ _ _ _ rr)) rfl ?_)))))
 rintro _ w6 ⟨rfl, k5⟩
 replace hb1 := hb1.oC k5
 replace rr := rr.oC k5
 replace o61 := o61.oC k5
 replace o62 := o62.oC k5
 replace o63 := o63.oC k5
 replace o64 := o64.oC k5
 replace o65 := o65.oC k5
 obtain ⟨hB, hb3⟩ := bX k5 hB hb3
 refine a7 (bn rfl rfl) rfl (ogm rfl rfl (aq 13 false rfl (fun c1 hgc1 => a9 [(5, _)] (ad rfl rfl rfl hgc1) ⟨bB rfl, trivial⟩ (fun hw1 => au (cs' := [_, _, _, _, _, _]) fB bm rfl hb3 rfl rfl) rfl (cC [(14, _)] (ad rfl rfl rfl hgc1) ⟨ag rfl, trivial⟩ (fun hw2 => ab (vs := [_]) rfl (jU _ _ _ _ _ (rLeaf c 0).1 _ o61.rd o62.rd o63.rd o64.rd o65.rd)) rfl ?_))))
 rintro w8 k7
 replace hb1 := hb1.oC k7
 replace o61 := o61.oC k7
 replace o62 := o62.oC k7
 replace o63 := o63.oC k7
 replace o64 := o64.oC k7
 replace o65 := o65.oC k7
 obtain ⟨hB, hb3⟩ := bX k7 hB hb3
 refine a9 [(15, _)] (ad rfl rfl rfl hgc1) ⟨ag rfl, trivial⟩ (fun hw3 => cd rfl) rfl (a7 (bP rfl rfl hgc1) rfl (a6 (af [(2, _), (5, _), (17, _)] ⟨rfl, rfl, rfl, trivial⟩ (bD rfl (fun hc1 => ?_) (fun hc1 => ?_)))))
 ·
  have hd1 := hc1
  try (simp only [Bool.and_eq_true, Bool.or_eq_true, decide_eq_true_eq, Bool.and_eq_false_iff, Bool.or_eq_false_iff, decide_eq_false_iff_not, Bool.not_eq_true', Bool.not_eq_false', Bool.not_eq_true, Bool.not_eq_false, ne_eq, Decidable.not_not, decide_true, decide_false, Bool.true_and, Bool.false_and, Bool.or_false, Bool.false_or, not_true_eq_false, false_or, or_false, true_and, and_true, not_false_eq_true, reduceCtorEq] at hd1)
  refine a5 (aZ (a7 (cA (idx := []) (xs := []) (vs := []) (css := []) (out := [_, _, _, _, _, _]) pl24 bm rfl rfl trivial rfl rfl) rfl (an (bK bm rfl rfl rfl (by simp only [List.forall_mem_cons]; refine ⟨rfl, rfl, rfl, rfl, rfl, rfl, fun v hv => by cases hv⟩) hb1 rfl) ?_)))
  rintro _ w9 ⟨hb4, k8, z4⟩
  replace o61 := o61.keep k8 (fun x hx hm => (fun x hx => (show x ≠ b1 from by have := (o61.blk x hx).1; omega)) x hx (List.mem_singleton.1 hm))
  replace o62 := o62.keep k8 (fun x hx hm => (fun x hx => (show x ≠ b1 from by have := (o62.blk x hx).1; omega)) x hx (List.mem_singleton.1 hm))
  replace o63 := o63.keep k8 (fun x hx hm => (fun x hx => (show x ≠ b1 from by have := (o63.blk x hx).1; omega)) x hx (List.mem_singleton.1 hm))
  replace o64 := o64.keep k8 (fun x hx hm => (fun x hx => (show x ≠ b1 from by have := (o64.blk x hx).1; omega)) x hx (List.mem_singleton.1 hm))
  replace o65 := o65.keep k8 (fun x hx hm => (fun x hx => (show x ≠ b1 from by have := (o65.blk x hx).1; omega)) x hx (List.mem_singleton.1 hm))
  replace hb3 := hb3.keep k8 (nm (Ne.symm ne_b1_b2))
  replace hB := hB.new k8 (nw ge_b1)
  clear z4
  replace hb4 : Bk w9 b1 _ [.slice none 0 0, .slice none 0 0, .slice none 0 0, .int .i64 0, .slice none 0 0, .slice none 0 0] := hb4
  refine oga rfl rfl (a6 (bJ hfin Try.results46 rfl (ar fB bm hb4 rfl) rfl ?_))
  have hok : glOk c = false := by
   rw [kR]
   by_cases h1 : rEnd (rLeaf c 0).2.1 (rLeaf c 0).2.2 = 0 <;> cases hw : leafOk (rLeaf c 0).1 <;> simp_all
  unfold glR glE
  rw [hok]
  exact ⟨_, _, _, _, _, rfl, a8 _ _ _ _, a8 _ _ _ _, a8 _ _ _ _, a8 _ _ _ _, a8 _ _ _ _, hB⟩
 ·
  have hd2 := hc1
  try (simp only [Bool.and_eq_true, Bool.or_eq_true, decide_eq_true_eq, Bool.and_eq_false_iff, Bool.or_eq_false_iff, decide_eq_false_iff_not, Bool.not_eq_true', Bool.not_eq_false', Bool.not_eq_true, Bool.not_eq_false, ne_eq, Decidable.not_not, decide_true, decide_false, Bool.true_and, Bool.false_and, Bool.or_false, Bool.false_or, not_true_eq_false, false_or, or_false, true_and, and_true, not_false_eq_true, reduceCtorEq] at hd2)
  refine aj (a5 (aZ (a7 (au (cs' := [_, _, _, _, _, _]) fB bm rfl hb3 rfl rfl) rfl (an (bK bm rfl rfl rfl (by simp only [List.forall_mem_cons]; exact ⟨o61.rd.one, o62.rd.one, o63.rd.one, rfl, o64.rd.one, o65.rd.one, fun v hv => by cases hv⟩) hb1 rfl) ?_))))
  rintro _ w10 ⟨hb5, k9, z5⟩
  replace o61 := o61.keep k9 (fun x hx hm => (fun x hx => (show x ≠ b1 from by have := (o61.blk x hx).1; omega)) x hx (List.mem_singleton.1 hm))
  replace o62 := o62.keep k9 (fun x hx hm => (fun x hx => (show x ≠ b1 from by have := (o62.blk x hx).1; omega)) x hx (List.mem_singleton.1 hm))
  replace o63 := o63.keep k9 (fun x hx hm => (fun x hx => (show x ≠ b1 from by have := (o63.blk x hx).1; omega)) x hx (List.mem_singleton.1 hm))
  replace o64 := o64.keep k9 (fun x hx hm => (fun x hx => (show x ≠ b1 from by have := (o64.blk x hx).1; omega)) x hx (List.mem_singleton.1 hm))
  replace o65 := o65.keep k9 (fun x hx hm => (fun x hx => (show x ≠ b1 from by have := (o65.blk x hx).1; omega)) x hx (List.mem_singleton.1 hm))
  replace hB := hB.new k9 (nw ge_b1)
  clear z5
  replace hb5 : Bk w10 b1 _ [e1, s1, n1, .int .i64 (rLeaf c 0).1.src, h1, g1] := hb5
  refine oga rfl rfl (a6 (bJ hfin Try.results46 rfl (ar fB bm hb5 rfl) rfl ?_))
  have hok : glOk c = true := by
   rw [kR]
   by_cases h1 : rEnd (rLeaf c 0).2.1 (rLeaf c 0).2.2 = 0 <;> cases hw : leafOk (rLeaf c 0).1 <;> simp_all
  unfold glR glE
  rw [hok]
  exact ⟨_, _, _, _, _, rfl, o61.lo gwR, o62.lo gwR, o63.lo gwR, o64.lo gwR, o65.lo gwR, hB⟩
theorem kx (v : Value) (c : List UInt8) (w : World) (hv : RdB w v c) (hc : c.length ≤ 140737488351232) : Rets Try.prog 44 [v] w (fun r w' => ∃ q0 q1 q2 q3 q4 q5 q6, r = .tuple #[.agg [q0, q1, q2, q3, .int .i64 (gpR c).leaf.src, q4, q5, q6].toArray, .int .i64 (gpE c)] ∧ OwnB w' w.heap.size q0 (gpR c).init ∧ OwnB w' w.heap.size q1 (gpR c).leaf.enc ∧ OwnB w' w.heap.size q2 (gpR c).leaf.sig ∧ OwnB w' w.heap.size q3 (gpR c).leaf.name ∧ OwnB w' w.heap.size q4 (gpR c).leaf.hash ∧ OwnB w' w.heap.size q5 (gpR c).leaf.sg ∧ OwnB w' w.heap.size q6 (gpR c).sg ∧ Keep [] w w') := by
 have hB : Keep [] w w := Keep.refl _ _
 have z1 := gd_len c
 refine ai Try.func44 rfl (by decide) Try.ntmps44 rfl (fun fin _ hfin => a5 (aZ (ah (bG cp) rfl ?_)))
 rintro _ w1 ⟨b1, rfl, eb1, hb1, k1, z1⟩
 have ge_b1 : w.heap.size ≤ b1 := by have := hB.size; omega
 replace hB := hB.trans k1
 clear eb1 z1
 refine oga rfl rfl (a6 (a5 (aZ (ogm rfl rfl ?_))))
 have zb1 := hb1.lt
 have hs8 := hB.size
 refine ah (ab (vs := [_]) rfl (eK _ c _ (hv.oC hB) (by omega))) rfl ?_
 rintro _ w2 ⟨p1, rfl, rr, k2⟩
 obtain ⟨hB, hb1⟩ := bX k2 hB hb1
 have gp1 := rr.1
 replace rr := rr.rdr
 have hp1 : b1 < p1 := by omega
 refine oga rfl rfl (a6 (a5 (aZ (ogm rfl rfl ?_))))
 have lv_km1 := rr.lt
 refine ah (ab (vs := [_, _]) rfl (ff p1 c 0 _ rr)) rfl ?_
 rintro _ w3 ⟨rfl, rr, km1⟩
 have z_km1 := km1.size
 replace hb1 := hb1.keep km1 (fun hm => by have h9 := List.mem_singleton.1 hm; omega)
 replace hB := hB.new km1 (fun x hm => .inl (by have h9 := List.mem_singleton.1 hm; omega))
 have rr : RdR w3 p1 (gdA c).2.1 (gdA c).2.2 := rr
 show OW _ _ _ _ _ _ ((11, .int .i64 (gdA c).1) :: _) _
 refine oga rfl rfl (a6 (a5 (aZ (ogm rfl rfl ?_))))
 have lv_km2 := rr.lt
 refine ah (ab (vs := [_, _]) rfl (ff p1 (gdA c).2.1 (gdA c).2.2 _ rr)) rfl ?_
 rintro _ w4 ⟨rfl, rr, km2⟩
 have z_km2 := km2.size
 replace hb1 := hb1.keep km2 (fun hm => by have h9 := List.mem_singleton.1 hm; omega)
 replace hB := hB.new km2 (fun x hm => .inl (by have h9 := List.mem_singleton.1 hm; omega))
 have rr : RdR w4 p1 (gdB c).2.1 (gdB c).2.2 := rr
 show OW _ _ _ _ _ _ ((13, .int .i64 (gdB c).1) :: _) _
 refine oga rfl rfl (a6 (a5 (aZ (ogm rfl rfl ?_))))
 have lv_km3 := rr.lt
 have gw_o1 := hB.size
 have lb_o1_b1 := hb1.lt
 refine ah (ab (vs := [_]) rfl (bY p1 (gdB c).2.1 (gdB c).2.2 _ rr)) rfl ?_
 rintro v1 w5 ⟨_, rfl, o1, rr, km3⟩
 have gl_o1 := hB.size
 have sb_b1_o1 := fun x hx => (show x ≠ b1 from by have h1 := (o1.blk x hx).1; have h2 := hb1.lt; omega)
 have z_km3 := km3.size
 replace hb1 := hb1.keep km3 (fun hm => by have h9 := List.mem_singleton.1 hm; omega)
 replace hB := hB.new km3 (fun x hm => .inl (by have h9 := List.mem_singleton.1 hm; omega))
 have rr : RdR w5 p1 (gdI c).2.1 (gdI c).2.2 := rr
 replace o1 : OwnB w5 w4.heap.size v1 (gdI c).1 := o1
 refine a7 (cA (idx := [0]) (xs := [.tmp 15]) (vs := [_]) (css := [[_]]) (out := [_, _, _, _, _, _, _, _]) pl26 cp rfl rfl ⟨Rd.cells (by first | assumption | exact Own.rd ‹_› | exact Rd.oC ‹_› hB | exact Own.rd (Own.oC ‹_› hB)), trivial⟩ rfl rfl) rfl ?_
 have lr7 := rr.lt
 have lt_o1 := fun x hx => (o1.blk x hx).2
 refine ah (bG cp) rfl ?_
 rintro _ w6 ⟨b2, rfl, eb2, hb2, k3, z2⟩
 have rlt7 : p1 < b2 := by omega
 have ebk := eb2
 have ge_b2 : w.heap.size ≤ b2 := by have := hB.size; omega
 have ne_b1_b2 : b1 ≠ b2 := by have := hb1.lt; omega
 replace hb1 := hb1.oC k3
 replace rr := rr.oC k3
 replace o1 := o1.oC k3
 replace hB := hB.trans k3
 clear eb2 z2
 refine an (bK cp rfl rfl rfl (by simp only [List.forall_mem_cons]; exact ⟨o1.rd.one, rfl, rfl, rfl, rfl, rfl, rfl, rfl, fun v hv => by cases hv⟩) hb2 rfl) ?_
 rintro _ w7 ⟨hb3, k4, z3⟩
 replace hb1 := hb1.keep k4 (nm ne_b1_b2)
 replace rr := rr.keep k4 (fun x hx hm => (fun x (hx : x ≤ p1) => (show x ≠ b2 from by omega)) x hx (List.mem_singleton.1 hm))
 replace o1 := o1.keep k4 (fun x hx hm => (fun x hx => Nat.ne_of_lt (Nat.lt_of_lt_of_le (lt_o1 x hx) (Nat.le_of_eq ebk.symm))) x hx (List.mem_singleton.1 hm))
 replace hB := hB.new k4 (nw ge_b2)
 clear z3
 replace hb3 : Bk w7 b2 _ [v1, .slice none 0 0, .slice none 0 0, .slice none 0 0, .int .i64 0, .slice none 0 0, .slice none 0 0, .slice none 0 0] := hb3
 refine a6 (af [(2, _), (4, _), (5, _), (6, _), (7, _)] ⟨rfl, rfl, rfl, rfl, rfl, trivial⟩ (a5 (aZ (ogm rfl rfl ?_))))
 have lbR := hb1.lt
 have gwR := hB.size
 have lvR := rr.lt
 have lb2R := hb3.lt
 refine ah (ab (vs := [_]) rfl (f6 w _ hB p1 (gdI c).2.1 (gdI c).2.2 (by omega) rr (by omega))) rfl ?_
 rintro _ w8 ⟨e1, s1, n1, h1, g1, rfl, o61, o62, o63, o64, o65, rr, hB2, km4⟩
 replace hB := hB2
 have z_km4 := km4.size
 replace hb1 := hb1.keep km4 (fun hm => by have h9 := List.mem_singleton.1 hm; omega)
 replace o1 := o1.keep km4 (fun x hx hm => by have h9 := List.mem_singleton.1 hm; have h8 := (o1.blk x hx).1; omega)
 replace hb3 := hb3.keep km4 (fun hm => by have h9 := List.mem_singleton.1 hm; omega)
 have rr : RdR w8 p1 (gdL c).2.1 (gdL c).2.2 := rr
 show OW _ _ _ _ _ _ ((18, .agg [e1, s1, n1, .int .i64 (gdL c).1.src, h1, g1].toArray) :: _) _
 refine a7 (ak aK rfl bm (by decide) rfl) rfl (an (bK bm rfl rfl rfl (by simp only [List.forall_mem_cons]; exact ⟨o61.rd.one, o62.rd.one, o63.rd.one, rfl, o64.rd.one, o65.rd.one, fun v hv => by cases hv⟩) hb3 rfl) ?_)
 rintro _ w9 ⟨hb4, k5, z4⟩
 replace hb1 := hb1.keep k5 (nm ne_b1_b2)
 replace rr := rr.keep k5 (fun x hx hm => (fun x (hx : x ≤ p1) => (show x ≠ b2 from by omega)) x hx (List.mem_singleton.1 hm))
 replace o1 := o1.keep k5 (fun x hx hm => (fun x hx => Nat.ne_of_lt (Nat.lt_of_lt_of_le (lt_o1 x hx) (Nat.le_of_eq ebk.symm))) x hx (List.mem_singleton.1 hm))
 replace o61 := o61.keep k5 (fun x hx hm => (fun x hx => (show x ≠ b2 from by have := (o61.blk x hx).1; omega)) x hx (List.mem_singleton.1 hm))
 replace o62 := o62.keep k5 (fun x hx hm => (fun x hx => (show x ≠ b2 from by have := (o62.blk x hx).1; omega)) x hx (List.mem_singleton.1 hm))
 replace o63 := o63.keep k5 (fun x hx hm => (fun x hx => (show x ≠ b2 from by have := (o63.blk x hx).1; omega)) x hx (List.mem_singleton.1 hm))
 replace o64 := o64.keep k5 (fun x hx hm => (fun x hx => (show x ≠ b2 from by have := (o64.blk x hx).1; omega)) x hx (List.mem_singleton.1 hm))
 replace o65 := o65.keep k5 (fun x hx hm => (fun x hx => (show x ≠ b2 from by have := (o65.blk x hx).1; omega)) x hx (List.mem_singleton.1 hm))
 replace hB := hB.new k5 (nw ge_b2)
 clear z4
 replace hb4 : Bk w9 b2 _ [v1, e1, s1, n1, .int .i64 (gdL c).1.src, h1, g1, .slice none 0 0] := hb4
 refine a6 (a5 (aZ (ogm rfl rfl ?_)))
 have lv_km5 := rr.lt
 have gw_o2 := hB.size
 have lb_o2_b1 := hb1.lt
 have lb_o2_b2 := hb4.lt
 refine ah (ab (vs := [_]) rfl (bY p1 (gdL c).2.1 (gdL c).2.2 _ rr)) rfl ?_
 rintro v2 w10 ⟨_, rfl, o2, rr, km5⟩
 have gl_o2 := hB.size
 have sb_b1_o2 := fun x hx => (show x ≠ b1 from by have h1 := (o2.blk x hx).1; have h2 := hb1.lt; omega)
 have sb_b2_o2 := fun x hx => (show x ≠ b2 from by have h1 := (o2.blk x hx).1; have h2 := hb4.lt; omega)
 have z_km5 := km5.size
 replace hb1 := hb1.keep km5 (fun hm => by have h9 := List.mem_singleton.1 hm; omega)
 replace o1 := o1.keep km5 (fun x hx hm => by have h9 := List.mem_singleton.1 hm; have h8 := (o1.blk x hx).1; omega)
 replace o61 := o61.keep km5 (fun x hx hm => by have h9 := List.mem_singleton.1 hm; have h8 := (o61.blk x hx).1; omega)
 replace o62 := o62.keep km5 (fun x hx hm => by have h9 := List.mem_singleton.1 hm; have h8 := (o62.blk x hx).1; omega)
 replace o63 := o63.keep km5 (fun x hx hm => by have h9 := List.mem_singleton.1 hm; have h8 := (o63.blk x hx).1; omega)
 replace o64 := o64.keep km5 (fun x hx hm => by have h9 := List.mem_singleton.1 hm; have h8 := (o64.blk x hx).1; omega)
 replace o65 := o65.keep km5 (fun x hx hm => by have h9 := List.mem_singleton.1 hm; have h8 := (o65.blk x hx).1; omega)
 replace hb4 := hb4.keep km5 (fun hm => by have h9 := List.mem_singleton.1 hm; omega)
 replace hB := hB.new km5 (fun x hm => .inl (by have h9 := List.mem_singleton.1 hm; omega))
 have rr : RdR w10 p1 (gdG c).2.1 (gdG c).2.2 := rr
 replace o2 : OwnB w10 w9.heap.size v2 (gdG c).1 := o2
 refine a7 (ak aK rfl am (by decide) rfl) rfl (an (bV am rfl rfl (Rd.one (by first | assumption | exact Own.rd ‹_› | exact Rd.oC ‹_› hB | exact Own.rd (Own.oC ‹_› hB))) hb4 rfl) ?_)
 rintro _ w11 ⟨hb5, k6, z5⟩
 replace hb1 := hb1.keep k6 (nm ne_b1_b2)
 replace rr := rr.keep k6 (fun x hx hm => (fun x (hx : x ≤ p1) => (show x ≠ b2 from by omega)) x hx (List.mem_singleton.1 hm))
 replace o1 := o1.keep k6 (fun x hx hm => (fun x hx => Nat.ne_of_lt (Nat.lt_of_lt_of_le (lt_o1 x hx) (Nat.le_of_eq ebk.symm))) x hx (List.mem_singleton.1 hm))
 replace o61 := o61.keep k6 (fun x hx hm => (fun x hx => (show x ≠ b2 from by have := (o61.blk x hx).1; omega)) x hx (List.mem_singleton.1 hm))
 replace o62 := o62.keep k6 (fun x hx hm => (fun x hx => (show x ≠ b2 from by have := (o62.blk x hx).1; omega)) x hx (List.mem_singleton.1 hm))
 replace o63 := o63.keep k6 (fun x hx hm => (fun x hx => (show x ≠ b2 from by have := (o63.blk x hx).1; omega)) x hx (List.mem_singleton.1 hm))
 replace o64 := o64.keep k6 (fun x hx hm => (fun x hx => (show x ≠ b2 from by have := (o64.blk x hx).1; omega)) x hx (List.mem_singleton.1 hm))
 replace o65 := o65.keep k6 (fun x hx hm => (fun x hx => (show x ≠ b2 from by have := (o65.blk x hx).1; omega)) x hx (List.mem_singleton.1 hm))
 replace o2 := o2.keep k6 (fun x hx hm => sb_b2_o2 x hx (List.mem_singleton.1 hm))
 replace hB := hB.new k6 (nw ge_b2)
 clear z5
 replace hb5 : Bk w11 b2 _ [v1, e1, s1, n1, .int .i64 (gdL c).1.src, h1, g1, v2] := hb5
 refine a6 (a5 (a5 (aZ (ogm rfl rfl (ah (ab (vs := [_]) rfl (cl _ _ _ _ rr)) rfl ?_)))))
 rintro _ w12 ⟨rfl, k7⟩
 replace hb1 := hb1.oC k7
 replace rr := rr.oC k7
 replace o1 := o1.oC k7
 replace o61 := o61.oC k7
 replace o62 := o62.oC k7
 replace o63 := o63.oC k7
 replace o64 := o64.oC k7
 replace o65 := o65.oC k7
 replace o2 := o2.oC k7
 obtain ⟨hB, hb5⟩ := bX k7 hB hb5
 refine a7 (bn rfl rfl) rfl (ogm rfl rfl (aq 26 false rfl (fun c1 hgc1 => a9 [(5, _)] (ad rfl rfl rfl hgc1) ⟨bB rfl, trivial⟩ (fun hw1 => bC rfl) rfl (a9 [(27, _)] (ad rfl rfl rfl hgc1) ⟨ag rfl, trivial⟩ (fun hw2 => bn rfl rfl) rfl (a7 (bP rfl rfl hgc1) rfl (ogm rfl rfl (aq 30 false rfl (fun c2 hgc2 => a9 [(6, _)] (ad rfl rfl rfl hgc2) ⟨bB rfl, trivial⟩ (fun hw3 => bC rfl) rfl (a9 [(31, _)] (ad rfl rfl rfl hgc2) ⟨ag rfl, trivial⟩ (fun hw4 => bn rfl rfl) rfl (a7 (bP rfl rfl hgc2) rfl ?_))))))))))
 refine ogm rfl rfl (aq 34 false rfl (fun c3 hgc3 => a9 [(7, _)] (ad rfl rfl rfl hgc3) ⟨bB rfl, trivial⟩ (fun hw5 => au (cs' := [_, _, _, _, _, _, _, _]) ii cp rfl hb5 rfl rfl) rfl (cC [(35, _)] (ad rfl rfl rfl hgc3) ⟨ag rfl, trivial⟩ (fun hw6 => ab (vs := [_]) rfl (la _ _ _ _ _ _ _ (gdP c) _ o1.rd o61.rd o62.rd o63.rd o64.rd o65.rd o2.rd)) rfl ?_)))
 rintro w14 k9
 replace hb1 := hb1.oC k9
 replace o1 := o1.oC k9
 replace o61 := o61.oC k9
 replace o62 := o62.oC k9
 replace o63 := o63.oC k9
 replace o64 := o64.oC k9
 replace o65 := o65.oC k9
 replace o2 := o2.oC k9
 obtain ⟨hB, hb5⟩ := bX k9 hB hb5
 refine a9 [(36, _)] (ad rfl rfl rfl hgc3) ⟨ag rfl, trivial⟩ (fun hw7 => cd rfl) rfl (a7 (bP rfl rfl hgc3) rfl (a6 (af [(2, _), (7, _), (38, _)] ⟨rfl, rfl, rfl, trivial⟩ (bD rfl (fun hc1 => ?_) (fun hc1 => ?_)))))
 ·
  have hd1 := hc1
  try (simp only [Bool.and_eq_true, Bool.or_eq_true, decide_eq_true_eq, Bool.and_eq_false_iff, Bool.or_eq_false_iff, decide_eq_false_iff_not, Bool.not_eq_true', Bool.not_eq_false', Bool.not_eq_true, Bool.not_eq_false, ne_eq, Decidable.not_not, decide_true, decide_false, Bool.true_and, Bool.false_and, Bool.or_false, Bool.false_or, not_true_eq_false, false_or, or_false, true_and, and_true, not_false_eq_true, reduceCtorEq] at hd1)
  refine a5 (aZ (a7 (cA (idx := []) (xs := []) (vs := []) (css := []) (out := [_, _, _, _, _, _, _, _]) pl26 cp rfl rfl trivial rfl rfl) rfl (an (bK cp rfl rfl rfl (by simp only [List.forall_mem_cons]; refine ⟨rfl, rfl, rfl, rfl, rfl, rfl, rfl, rfl, fun v hv => by cases hv⟩) hb1 rfl) ?_)))
  rintro _ w15 ⟨hb6, k10, z6⟩
  replace o1 := o1.keep k10 (fun x hx hm => sb_b1_o1 x hx (List.mem_singleton.1 hm))
  replace o61 := o61.keep k10 (fun x hx hm => (fun x hx => (show x ≠ b1 from by have := (o61.blk x hx).1; omega)) x hx (List.mem_singleton.1 hm))
  replace o62 := o62.keep k10 (fun x hx hm => (fun x hx => (show x ≠ b1 from by have := (o62.blk x hx).1; omega)) x hx (List.mem_singleton.1 hm))
  replace o63 := o63.keep k10 (fun x hx hm => (fun x hx => (show x ≠ b1 from by have := (o63.blk x hx).1; omega)) x hx (List.mem_singleton.1 hm))
  replace o64 := o64.keep k10 (fun x hx hm => (fun x hx => (show x ≠ b1 from by have := (o64.blk x hx).1; omega)) x hx (List.mem_singleton.1 hm))
  replace o65 := o65.keep k10 (fun x hx hm => (fun x hx => (show x ≠ b1 from by have := (o65.blk x hx).1; omega)) x hx (List.mem_singleton.1 hm))
  replace o2 := o2.keep k10 (fun x hx hm => sb_b1_o2 x hx (List.mem_singleton.1 hm))
  replace hb5 := hb5.keep k10 (nm (Ne.symm ne_b1_b2))
  replace hB := hB.new k10 (nw ge_b1)
  clear z6
  replace hb6 : Bk w15 b1 _ [.slice none 0 0, .slice none 0 0, .slice none 0 0, .slice none 0 0, .int .i64 0, .slice none 0 0, .slice none 0 0, .slice none 0 0] := hb6
  refine oga rfl rfl (a6 (bJ hfin Try.results44 rfl (ar ii cp hb6 rfl) rfl ?_))
  have hdoc := kP c
  have hok : gdOk c = false := by
   unfold gdOk
   by_cases h1 : rEnd (gdG c).2.1 (gdG c).2.2 = 0 <;> by_cases h2 : (gdA c).1 = 1 <;> by_cases h3 : (gdB c).1 = 1 <;> cases hw : pkOk (gdP c) <;> simp_all
  have hok2 : gpOk c = false := hdoc.1.trans hok
  unfold gpR gpE
  rw [hok2]
  exact ⟨_, _, _, _, _, _, _, rfl, a8 _ _ _ _, a8 _ _ _ _, a8 _ _ _ _, a8 _ _ _ _, a8 _ _ _ _, a8 _ _ _ _, a8 _ _ _ _, hB⟩
 ·
  have hd2 := hc1
  try (simp only [Bool.and_eq_true, Bool.or_eq_true, decide_eq_true_eq, Bool.and_eq_false_iff, Bool.or_eq_false_iff, decide_eq_false_iff_not, Bool.not_eq_true', Bool.not_eq_false', Bool.not_eq_true, Bool.not_eq_false, ne_eq, Decidable.not_not, decide_true, decide_false, Bool.true_and, Bool.false_and, Bool.or_false, Bool.false_or, not_true_eq_false, false_or, or_false, true_and, and_true, not_false_eq_true, reduceCtorEq] at hd2)
  refine aj (a5 (aZ (a7 (au (cs' := [_, _, _, _, _, _, _, _]) ii cp rfl hb5 rfl rfl) rfl (an (bK cp rfl rfl rfl (by simp only [List.forall_mem_cons]; exact ⟨o1.rd.one, o61.rd.one, o62.rd.one, o63.rd.one, rfl, o64.rd.one, o65.rd.one, o2.rd.one, fun v hv => by cases hv⟩) hb1 rfl) ?_))))
  rintro _ w16 ⟨hb7, k11, z7⟩
  replace o1 := o1.keep k11 (fun x hx hm => sb_b1_o1 x hx (List.mem_singleton.1 hm))
  replace o61 := o61.keep k11 (fun x hx hm => (fun x hx => (show x ≠ b1 from by have := (o61.blk x hx).1; omega)) x hx (List.mem_singleton.1 hm))
  replace o62 := o62.keep k11 (fun x hx hm => (fun x hx => (show x ≠ b1 from by have := (o62.blk x hx).1; omega)) x hx (List.mem_singleton.1 hm))
  replace o63 := o63.keep k11 (fun x hx hm => (fun x hx => (show x ≠ b1 from by have := (o63.blk x hx).1; omega)) x hx (List.mem_singleton.1 hm))
  replace o64 := o64.keep k11 (fun x hx hm => (fun x hx => (show x ≠ b1 from by have := (o64.blk x hx).1; omega)) x hx (List.mem_singleton.1 hm))
  replace o65 := o65.keep k11 (fun x hx hm => (fun x hx => (show x ≠ b1 from by have := (o65.blk x hx).1; omega)) x hx (List.mem_singleton.1 hm))
  replace o2 := o2.keep k11 (fun x hx hm => sb_b1_o2 x hx (List.mem_singleton.1 hm))
  replace hB := hB.new k11 (nw ge_b1)
  clear z7
  replace hb7 : Bk w16 b1 _ [v1, e1, s1, n1, .int .i64 (gdL c).1.src, h1, g1, v2] := hb7
  refine oga rfl rfl (a6 (bJ hfin Try.results44 rfl (ar ii cp hb7 rfl) rfl ?_))
  have hdoc := kP c
  have hok : gdOk c = true := by
   unfold gdOk
   by_cases h1 : rEnd (gdG c).2.1 (gdG c).2.2 = 0 <;> by_cases h2 : (gdA c).1 = 1 <;> by_cases h3 : (gdB c).1 = 1 <;> cases hw : pkOk (gdP c) <;> simp_all
  have hok2 : gpOk c = true := hdoc.1.trans hok
  unfold gpR gpE
  rw [hok2]
  rw [← hdoc.2 hok]
  exact ⟨_, _, _, _, _, _, _, rfl, o1.lo gw_o1, o61.lo gwR, o62.lo gwR, o63.lo gwR, o64.lo gwR, o65.lo gwR, o2.lo gw_o2, hB⟩
end Go.Proofs.Ytonchmcppekldaa.W
namespace Go.Eng
open Go Go.Byt
structure Pr where
  kind : Int
  pk : Pk
  lf : Lf
  ix : Int
  psk : List UInt8
  nonce : List UInt8
  enc : List UInt8
def lfBare (l : Lf) : Bool := decide (l.enc.length + l.sig.length + l.name.length + l.hash.length + l.sg.length = 0) && decide (l.src = 0)
def pkBare (p : Pk) : Bool := decide (p.init.length + p.sg.length = 0) && lfBare p.leaf
def prBare (x : Pr) : Bool := (decide (x.kind = 1) || pkBare x.pk) && (decide (x.kind = 2) || lfBare x.lf) && (decide (x.kind = 3) || decide (x.ix = 0)) && (decide (x.kind = 4) || decide (x.psk.length + x.nonce.length = 0)) && (decide (x.kind = 6) || decide (x.enc.length = 0))
def prKind (x : Pr) : Bool := if x.kind = 1 then pkOk x.pk else if x.kind = 2 then leafOk x.lf && decide (x.lf.src = 2) else if x.kind = 3 then decide (0 ≤ x.ix ∧ x.ix < 64) else if x.kind = 4 then decide (1 ≤ x.psk.length ∧ x.psk.length ≤ 255 ∧ x.nonce.length = 32) else if x.kind = 6 then decide (x.enc.length = 32) else false
def prOk (x : Pr) : Bool := prBare x && prKind x
def prX (x : Pr) : List UInt8 := if x.kind = 1 then vec (pkB x.pk) else if x.kind = 2 then vec (leafB x.lf) else if x.kind = 3 then be x.ix 4 else if x.kind = 4 then vec x.psk ++ vec x.nonce else vec x.enc
def prB (x : Pr) : List UInt8 := [0, byteAt x.kind 0] ++ prX x
theorem dp {l : Lf} : lfBare l = true ↔ l.enc.length + l.sig.length + l.name.length + l.hash.length + l.sg.length = 0 ∧ l.src = 0 := by
 unfold lfBare; simp only [Bool.and_eq_true, decide_eq_true_eq]
theorem fm {p : Pk} : pkBare p = true ↔ p.init.length + p.sg.length = 0 ∧ lfBare p.leaf = true := by
 unfold pkBare; simp only [Bool.and_eq_true, decide_eq_true_eq]
theorem fk {x : Pr} : prBare x = true ↔ (x.kind = 1 ∨ pkBare x.pk = true) ∧ (x.kind = 2 ∨ lfBare x.lf = true) ∧ (x.kind = 3 ∨ x.ix = 0) ∧ (x.kind = 4 ∨ x.psk.length + x.nonce.length = 0) ∧ (x.kind = 6 ∨ x.enc.length = 0) := by
 unfold prBare; simp only [Bool.and_eq_true, Bool.or_eq_true, decide_eq_true_eq, and_assoc]
theorem fj {x : Pr} (h : prOk x = true) (hk : x.kind = 1) : pkOk x.pk = true := by
 unfold prOk prKind at h; rw [if_pos hk] at h; exact (Bool.and_eq_true_iff.1 h).2
theorem fi {x : Pr} (h : prOk x = true) (hk : x.kind = 2) : leafOk x.lf = true ∧ x.lf.src = 2 := by
 unfold prOk prKind at h; rw [if_neg (by omega), if_pos hk] at h
 have := (Bool.and_eq_true_iff.1 h).2
 simpa using this
theorem lD {x : Pr} (h : prOk x = true) (hk : x.kind = 3) : 0 ≤ x.ix ∧ x.ix < 64 := by
 unfold prOk prKind at h; rw [if_neg (by omega), if_neg (by omega), if_pos hk] at h
 have := (Bool.and_eq_true_iff.1 h).2
 simpa using this
theorem jX {x : Pr} (h : prOk x = true) (hk : x.kind = 4) : 1 ≤ x.psk.length ∧ x.psk.length ≤ 255 ∧ x.nonce.length = 32 := by
 unfold prOk prKind at h; rw [if_neg (by omega), if_neg (by omega), if_neg (by omega), if_pos hk] at h
 have := (Bool.and_eq_true_iff.1 h).2
 exact of_decide_eq_true this
theorem fh {x : Pr} (h : prOk x = true) (h1 : x.kind ≠ 1) (h2 : x.kind ≠ 2) (h3 : x.kind ≠ 3) (h4 : x.kind ≠ 4) : x.kind = 6 ∧ x.enc.length = 32 := by
 unfold prOk prKind at h; rw [if_neg h1, if_neg h2, if_neg h3, if_neg h4] at h
 have := (Bool.and_eq_true_iff.1 h).2
 by_cases h6 : x.kind = 6
 · rw [if_pos h6] at this; exact ⟨h6, of_decide_eq_true this⟩
 · rw [if_neg h6] at this; cases this
def kyA (c : List UInt8) := rNum 16 c 0 2
def kyV (c : List UInt8) := rVec (kyA c).2.1 (kyA c).2.2
def kyW (c : List UInt8) := rVec (kyV c).2.1 (kyV c).2.2
def kyN (c : List UInt8) := rNum 32 (kyA c).2.1 (kyA c).2.2 4
def kyP (c : List UInt8) : Pr := let k := (kyA c).1
 if k = 1 then ⟨k, gpR (kyV c).1, bf, 0, [], [], []⟩ else if k = 2 then ⟨k, bg, glR (kyV c).1, 0, [], [], []⟩ else if k = 3 then ⟨k, bg, bf, (kyN c).1, [], [], []⟩ else if k = 4 then ⟨k, bg, bf, 0, (kyV c).1, (kyW c).1, []⟩ else if k = 6 then ⟨k, bg, bf, 0, [], [], (kyV c).1⟩ else ⟨k, bg, bf, 0, [], [], []⟩
def kyS (c : List UInt8) : List UInt8 × Int := let k := (kyA c).1
 if k = 1 then (kyV c).2 else if k = 2 then (kyV c).2 else if k = 3 then (kyN c).2 else if k = 4 then (kyW c).2 else if k = 6 then (kyV c).2 else (kyA c).2
def kyE (c : List UInt8) : Int := if (kyA c).1 = 1 then gpE (kyV c).1 else if (kyA c).1 = 2 then glE (kyV c).1 else 0
def kgOk (c : List UInt8) : Bool := decide (kyE c = 0) && decide (rEnd (kyS c).1 (kyS c).2 = 0) && prOk (kyP c)
def lF : Pr := ⟨0, bg, bf, 0, [], [], []⟩
def kgR (c : List UInt8) : Pr := bif kgOk c then kyP c else lF
def kgE (c : List UInt8) : Int := bif kgOk c then 0 else 21
theorem lR {c : List UInt8} (h : (kyA c).1 = 1) : kyP c = ⟨1, gpR (kyV c).1, bf, 0, [], [], []⟩ ∧ kyS c = (kyV c).2 ∧ kyE c = gpE (kyV c).1 := by
 unfold kyP kyS kyE; simp [h]
theorem lQ {c : List UInt8} (h : (kyA c).1 = 2) : kyP c = ⟨2, bg, glR (kyV c).1, 0, [], [], []⟩ ∧ kyS c = (kyV c).2 ∧ kyE c = glE (kyV c).1 := by
 unfold kyP kyS kyE; simp [h]
theorem lP {c : List UInt8} (h : (kyA c).1 = 3) : kyP c = ⟨3, bg, bf, (kyN c).1, [], [], []⟩ ∧ kyS c = (kyN c).2 ∧ kyE c = 0 := by
 unfold kyP kyS kyE; simp [h]
theorem lO {c : List UInt8} (h : (kyA c).1 = 4) : kyP c = ⟨4, bg, bf, 0, (kyV c).1, (kyW c).1, []⟩ ∧ kyS c = (kyW c).2 ∧ kyE c = 0 := by
 unfold kyP kyS kyE; simp [h]
theorem ky_6 {c : List UInt8} (h : (kyA c).1 = 6) : kyP c = ⟨6, bg, bf, 0, [], [], (kyV c).1⟩ ∧ kyS c = (kyV c).2 ∧ kyE c = 0 := by
 unfold kyP kyS kyE; simp [h]
theorem ky_n {c : List UInt8} (h1 : (kyA c).1 ≠ 1) (h2 : (kyA c).1 ≠ 2) (h3 : (kyA c).1 ≠ 3) (h4 : (kyA c).1 ≠ 4) (h6 : (kyA c).1 ≠ 6) : kyP c = ⟨(kyA c).1, bg, bf, 0, [], [], []⟩ ∧ kyS c = (kyA c).2 ∧ kyE c = 0 := by
 unfold kyP kyS kyE; simp [h1, h2, h3, h4, h6]
theorem nY (c : List UInt8) : (kyA c).2.1.length ≤ c.length ∧ (kyV c).2.1.length ≤ c.length ∧ (kyW c).2.1.length ≤ c.length ∧ (kyN c).2.1.length ≤ c.length := by
 have h1 : (kyA c).2.1.length ≤ _ := dH 16 c 0 2
 have h2 : (kyV c).2.1.length ≤ _ := bS (kyA c).2.1 (kyA c).2.2
 have h3 : (kyW c).2.1.length ≤ _ := bS (kyV c).2.1 (kyV c).2.2
 have h4 : (kyN c).2.1.length ≤ _ := dH 32 (kyA c).2.1 (kyA c).2.2 4
 omega
end Go.Eng
namespace Go.Proofs.Ytonchmcppekldaa.W
open Go Go.Eng Go.Byt
theorem gL (e s n h g : Value) (l : Lf) (w : World) (he : RdB w e l.enc) (hs : RdB w s l.sig) (hn : RdB w n l.name) (hh : RdB w h l.hash) (hg : RdB w g l.sg) (hb1 : l.enc.length ≤ 140737488351232) (hb2 : l.sig.length ≤ 140737488351232) (hb3 : l.name.length ≤ 140737488351232) (hb4 : l.hash.length ≤ 140737488351232) (hb5 : l.sg.length ≤ 140737488351232) : Rets Try.prog 61 [.agg [e, s, n, .int .i64 l.src, h, g].toArray] w (fun r w' => r = .bool (lfBare l) ∧ Keep [] w w') := by
 have hB : Keep [] w w := Keep.refl _ _
 have t1 := hb1; have t2 := hb2; have t3 := hb3; have t4 := hb4; have t5 := hb5; clear hb1 hb2 hb3 hb4 hb5
 refine ai Try.func61 rfl (by decide) Try.ntmps61 rfl (fun fin _ hfin => a5 (aZ (ah (bc (cs := [e, s, n, .int .i64 l.src, h, g]) rfl rfl) rfl ?_)))
 rintro _ w1 ⟨b1, rfl, eb1, hb1, k1, z1⟩
 have ge_b1 : w.heap.size ≤ b1 := by have := hB.size; omega
 replace hB := hB.trans k1
 clear eb1 z1
 refine oga rfl rfl (a6 (a5 (aZ (a7 (ak aE rfl am (by decide) rfl) rfl (a7 (ae aw rfl hb1 rfl) rfl (a7 (ay aA rfl (by first | assumption | exact Own.rd ‹_› | exact Rd.oC ‹_› hB | exact Own.rd (Own.oC ‹_› hB))) rfl (a7 (ak aE rfl am (by decide) rfl) rfl (a7 (ae aw rfl hb1 rfl) rfl (a7 (ay aA rfl (by first | assumption | exact Own.rd ‹_› | exact Rd.oC ‹_› hB | exact Own.rd (Own.oC ‹_› hB))) rfl (a7 (bN rfl rfl (by omega)) rfl (a7 (ak aE rfl am (by decide) rfl) rfl (a7 (ae aw rfl hb1 rfl) rfl ?_))))))))))))
 refine a7 (ay aA rfl (by first | assumption | exact Own.rd ‹_› | exact Rd.oC ‹_› hB | exact Own.rd (Own.oC ‹_› hB))) rfl (a7 (bN rfl rfl (by omega)) rfl (a7 (ak aE rfl am (by decide) rfl) rfl (a7 (ae aw rfl hb1 rfl) rfl (a7 (ay aA rfl (by first | assumption | exact Own.rd ‹_› | exact Rd.oC ‹_› hB | exact Own.rd (Own.oC ‹_› hB))) rfl (a7 (bN rfl rfl (by omega)) rfl (a7 (ak aE rfl am (by decide) rfl) rfl (a7 (ae aw rfl hb1 rfl) rfl (a7 (ay aA rfl (by first | assumption | exact Own.rd ‹_› | exact Rd.oC ‹_› hB | exact Own.rd (Own.oC ‹_› hB))) rfl ?_))))))))
 refine a7 (bN rfl rfl (by omega)) rfl (a7 (bE rfl rfl) rfl (ogm rfl rfl (aq 23 true rfl (fun c1 hgc1 => a9 [(1, _)] (ad rfl rfl rfl hgc1) ⟨bB rfl, trivial⟩ (fun hw1 => ak aE rfl bh (by decide) rfl) rfl (a9 [(24, _)] (ad rfl rfl rfl hgc1) ⟨ag rfl, trivial⟩ (fun hw2 => ae cY rfl hb1 rfl) rfl (a9 [(25, _)] (ad rfl rfl rfl hgc1) ⟨ag rfl, trivial⟩ (fun hw3 => bE rfl rfl) rfl (a7 (bM rfl rfl hgc1) rfl (oga rfl rfl (a6 (af [(2, _)] ⟨rfl, trivial⟩ (al hfin Try.results61 rfl ?_)))))))))))
 refine ⟨congrArg Value.bool (by rw [Bool.eq_iff_iff, dp]; simp only [Bool.or_eq_true, Bool.and_eq_true, decide_eq_true_eq]; omega), hB⟩
theorem iM (e s n h g : Value) (l : Lf) (w : World) (he : RdB w e l.enc) (hs : RdB w s l.sig) (hn : RdB w n l.name) (hh : RdB w h l.hash) (hg : RdB w g l.sg) (hb1 : l.enc.length ≤ 140737488351232) (hb2 : l.sig.length ≤ 140737488351232) (hb3 : l.name.length ≤ 140737488351232) (hb4 : l.hash.length ≤ 140737488351232) (hb5 : l.sg.length ≤ 140737488351232) : Rets Try.prog 72 [.agg [e, s, n, .int .i64 l.src, h, g].toArray] w (fun r w' => r = .bool (lfBare l) ∧ Keep [] w w') := by
 have hB : Keep [] w w := Keep.refl _ _
 have t1 := hb1; have t2 := hb2; have t3 := hb3; have t4 := hb4; have t5 := hb5; clear hb1 hb2 hb3 hb4 hb5
 refine ai Try.func72 rfl (by decide) Try.ntmps72 rfl (fun fin _ hfin => a5 (aZ (ah (bc (cs := [e, s, n, .int .i64 l.src, h, g]) rfl rfl) rfl ?_)))
 rintro _ w1 ⟨b1, rfl, eb1, hb1, k1, z1⟩
 have ge_b1 : w.heap.size ≤ b1 := by have := hB.size; omega
 replace hB := hB.trans k1
 clear eb1 z1
 refine oga rfl rfl (a6 (a5 (aZ (a7 (ak aC rfl am (by decide) rfl) rfl (a7 (ae aw rfl hb1 rfl) rfl (a7 (ay aA rfl (by first | assumption | exact Own.rd ‹_› | exact Rd.oC ‹_› hB | exact Own.rd (Own.oC ‹_› hB))) rfl (a7 (ak aC rfl am (by decide) rfl) rfl (a7 (ae aw rfl hb1 rfl) rfl (a7 (ay aA rfl (by first | assumption | exact Own.rd ‹_› | exact Rd.oC ‹_› hB | exact Own.rd (Own.oC ‹_› hB))) rfl (a7 (bN rfl rfl (by omega)) rfl (a7 (ak aC rfl am (by decide) rfl) rfl (a7 (ae aw rfl hb1 rfl) rfl ?_))))))))))))
 refine a7 (ay aA rfl (by first | assumption | exact Own.rd ‹_› | exact Rd.oC ‹_› hB | exact Own.rd (Own.oC ‹_› hB))) rfl (a7 (bN rfl rfl (by omega)) rfl (a7 (ak aC rfl am (by decide) rfl) rfl (a7 (ae aw rfl hb1 rfl) rfl (a7 (ay aA rfl (by first | assumption | exact Own.rd ‹_› | exact Rd.oC ‹_› hB | exact Own.rd (Own.oC ‹_› hB))) rfl (a7 (bN rfl rfl (by omega)) rfl (a7 (ak aC rfl am (by decide) rfl) rfl (a7 (ae aw rfl hb1 rfl) rfl (a7 (ay aA rfl (by first | assumption | exact Own.rd ‹_› | exact Rd.oC ‹_› hB | exact Own.rd (Own.oC ‹_› hB))) rfl ?_))))))))
 refine a7 (bN rfl rfl (by omega)) rfl (a7 (bE rfl rfl) rfl (ogm rfl rfl (aq 23 true rfl (fun c1 hgc1 => a9 [(1, _)] (ad rfl rfl rfl hgc1) ⟨bB rfl, trivial⟩ (fun hw1 => ak aC rfl bh (by decide) rfl) rfl (a9 [(24, _)] (ad rfl rfl rfl hgc1) ⟨ag rfl, trivial⟩ (fun hw2 => ae cY rfl hb1 rfl) rfl (a9 [(25, _)] (ad rfl rfl rfl hgc1) ⟨ag rfl, trivial⟩ (fun hw3 => bE rfl rfl) rfl (a7 (bM rfl rfl hgc1) rfl (oga rfl rfl (a6 (af [(2, _)] ⟨rfl, trivial⟩ (al hfin Try.results72 rfl ?_)))))))))))
 refine ⟨congrArg Value.bool (by rw [Bool.eq_iff_iff, dp]; simp only [Bool.or_eq_true, Bool.and_eq_true, decide_eq_true_eq]; omega), hB⟩
theorem nS (i e s n h g gg : Value) (z : Pk) (w : World) (hi : RdB w i z.init) (he : RdB w e z.leaf.enc) (hs : RdB w s z.leaf.sig) (hn : RdB w n z.leaf.name) (hh : RdB w h z.leaf.hash) (hg : RdB w g z.leaf.sg) (hgg : RdB w gg z.sg) (t0 : z.init.length ≤ 140737488351232) (t1 : z.leaf.enc.length ≤ 140737488351232) (t2 : z.leaf.sig.length ≤ 140737488351232) (t3 : z.leaf.name.length ≤ 140737488351232) (t4 : z.leaf.hash.length ≤ 140737488351232) (t5 : z.leaf.sg.length ≤ 140737488351232) (t6 : z.sg.length ≤ 140737488351232) : Rets Try.prog 71 [.agg [i, e, s, n, .int .i64 z.leaf.src, h, g, gg].toArray] w (fun r w' => r = .bool (pkBare z) ∧ Keep [] w w') := by
 have hB : Keep [] w w := Keep.refl _ _
 refine ai Try.func71 rfl (by decide) Try.ntmps71 rfl (fun fin _ hfin => a5 (aZ (ah (bc (cs := [i, e, s, n, .int .i64 z.leaf.src, h, g, gg]) rfl rfl) rfl ?_)))
 rintro _ w1 ⟨b1, rfl, eb1, hb1, k1, z1⟩
 have ge_b1 : w.heap.size ≤ b1 := by have := hB.size; omega
 replace hB := hB.trans k1
 clear eb1 z1
 refine oga rfl rfl (a6 (a5 (aZ (a7 (ak aK rfl am (by decide) rfl) rfl (a7 (ae aw rfl hb1 rfl) rfl (a7 (ay aA rfl (by first | assumption | exact Own.rd ‹_› | exact Rd.oC ‹_› hB | exact Own.rd (Own.oC ‹_› hB))) rfl (a7 (ak aK rfl am (by decide) rfl) rfl (a7 (ae aw rfl hb1 rfl) rfl (a7 (ay aA rfl (by first | assumption | exact Own.rd ‹_› | exact Rd.oC ‹_› hB | exact Own.rd (Own.oC ‹_› hB))) rfl (a7 (bN rfl rfl (by omega)) rfl (a7 (bE rfl rfl) rfl (ogm rfl rfl (aq 11 true rfl (fun c1 hgc1 => ?_))))))))))))))
 refine a9 [(1, _)] (ad rfl rfl rfl hgc1) ⟨bB rfl, trivial⟩ (fun hw1 => ak aK rfl bm (by decide) rfl) rfl (a9 [(12, _)] (ad rfl rfl rfl hgc1) ⟨ag rfl, trivial⟩ (fun hw2 => au (cs' := [_, _, _, _, _, _]) fB bm rfl hb1 rfl rfl) rfl (cC [(13, _)] (ad rfl rfl rfl hgc1) ⟨ag rfl, trivial⟩ (fun hw3 => ab (vs := [_]) rfl (iM _ _ _ _ _ z.leaf _ (by first | assumption | exact Own.rd ‹_› | exact Rd.oC ‹_› hB | exact Own.rd (Own.oC ‹_› hB)) (by first | assumption | exact Own.rd ‹_› | exact Rd.oC ‹_› hB | exact Own.rd (Own.oC ‹_› hB)) (by first | assumption | exact Own.rd ‹_› | exact Rd.oC ‹_› hB | exact Own.rd (Own.oC ‹_› hB)) (by first | assumption | exact Own.rd ‹_› | exact Rd.oC ‹_› hB | exact Own.rd (Own.oC ‹_› hB)) (by first | assumption | exact Own.rd ‹_› | exact Rd.oC ‹_› hB | exact Own.rd (Own.oC ‹_› hB)) t1 t2 t3 t4 t5)) rfl ?_))
 rintro w3 k3
 replace hB := hB.trans k3
 refine a7 (bM rfl rfl hgc1) rfl (oga rfl rfl (a6 (af [(2, _)] ⟨rfl, trivial⟩ (al hfin Try.results71 rfl ?_))))
 refine ⟨congrArg Value.bool (by rw [Bool.eq_iff_iff, fm]; simp only [Bool.and_eq_true, decide_eq_true_eq]; constructor <;> (rintro ⟨a1, a2⟩; exact ⟨by omega, a2⟩)), hB⟩
theorem fw (e s n h g : Value) (l : Lf) (w : World) (he : RdB w e l.enc) (hs : RdB w s l.sig) (hn : RdB w n l.name) (hh : RdB w h l.hash) (hg : RdB w g l.sg) (eq sq nq hq gq : Value) (we : RdB w eq l.enc) (ws : RdB w sq l.sig) (wn : RdB w nq l.name) (wh : RdB w hq l.hash) (wg : RdB w gq l.sg) : Rets Try.prog 49 [.agg [e, s, n, .int .i64 l.src, h, g].toArray, .agg [eq, sq, nq, .int .i64 l.src, hq, gq].toArray] w (fun r w' => r = .bool true ∧ Keep [] w w') := by
 have hB : Keep [] w w := Keep.refl _ _
 refine ai Try.func49 rfl (by decide) Try.ntmps49 rfl (fun fin _ hfin => a5 (aZ (ah (bc (cs := [e, s, n, .int .i64 l.src, h, g]) rfl rfl) rfl ?_)))
 rintro _ w1 ⟨b1, rfl, eb1, hb1, k1, z1⟩
 replace hB := hB.trans k1
 clear eb1 z1
 refine ah (bc (cs := [eq, sq, nq, .int .i64 l.src, hq, gq]) rfl rfl) rfl ?_
 rintro _ w2 ⟨b2, rfl, eb2, hb2, k2, z2⟩
 obtain ⟨hB, hb1⟩ := bX k2 hB hb1
 clear eb2 z2
 refine oga rfl rfl (a6 (a5 (aZ (a7 (az 0 aE rfl am (by decide) rfl rfl) rfl (a7 (ae aw rfl hb1 rfl) rfl (a7 (br aA aG aI rfl (by first | assumption | exact Own.rd ‹_› | exact Rd.oC ‹_› hB | exact Own.rd (Own.oC ‹_› hB))) rfl (a7 (az 0 aC rfl am (by decide) rfl rfl) rfl (a7 (ae aw rfl hb2 rfl) rfl (a7 (br aA aG aI rfl (by first | assumption | exact Own.rd ‹_› | exact Rd.oC ‹_› hB | exact Own.rd (Own.oC ‹_› hB))) rfl (a7 (eA rfl rfl) rfl (ogm rfl rfl (ax (grdT rfl rfl rfl (decide_eq_true rfl)) (az 1 aE rfl am (by decide) rfl rfl) rfl (ax (grdT rfl rfl rfl (decide_eq_true rfl)) (ae aw rfl hb1 rfl) rfl ?_)))))))))))))
 refine ax (grdT rfl rfl rfl (decide_eq_true rfl)) (br aA aG aI rfl (by first | assumption | exact Own.rd ‹_› | exact Rd.oC ‹_› hB | exact Own.rd (Own.oC ‹_› hB))) rfl (ax (grdT rfl rfl rfl (decide_eq_true rfl)) (az 1 aC rfl am (by decide) rfl rfl) rfl (ax (grdT rfl rfl rfl (decide_eq_true rfl)) (ae aw rfl hb2 rfl) rfl (ax (grdT rfl rfl rfl (decide_eq_true rfl)) (br aA aG aI rfl (by first | assumption | exact Own.rd ‹_› | exact Rd.oC ‹_› hB | exact Own.rd (Own.oC ‹_› hB))) rfl (ax (grdT rfl rfl rfl (decide_eq_true rfl)) (eA rfl rfl) rfl (a7 (cK rfl (decide_eq_true rfl) rfl) rfl (ogm rfl rfl (ax (grdT rfl rfl rfl (decide_eq_true rfl)) (az 2 aE rfl am (by decide) rfl rfl) rfl (ax (grdT rfl rfl rfl (decide_eq_true rfl)) (ae aw rfl hb1 rfl) rfl (ax (grdT rfl rfl rfl (decide_eq_true rfl)) (br aA aG aI rfl (by first | assumption | exact Own.rd ‹_› | exact Rd.oC ‹_› hB | exact Own.rd (Own.oC ‹_› hB))) rfl ?_)))))))))
 refine ax (grdT rfl rfl rfl (decide_eq_true rfl)) (az 2 aC rfl am (by decide) rfl rfl) rfl (ax (grdT rfl rfl rfl (decide_eq_true rfl)) (ae aw rfl hb2 rfl) rfl (ax (grdT rfl rfl rfl (decide_eq_true rfl)) (br aA aG aI rfl (by first | assumption | exact Own.rd ‹_› | exact Rd.oC ‹_› hB | exact Own.rd (Own.oC ‹_› hB))) rfl (ax (grdT rfl rfl rfl (decide_eq_true rfl)) (eA rfl rfl) rfl (a7 (cK rfl (decide_eq_true rfl) rfl) rfl (ogm rfl rfl (ax (grdT rfl rfl rfl (decide_eq_true rfl)) (az 3 aE rfl bh (by decide) rfl rfl) rfl (ax (grdT rfl rfl rfl (decide_eq_true rfl)) (ae cY rfl hb1 rfl) rfl (ax (grdT rfl rfl rfl (decide_eq_true rfl)) (az 3 aC rfl bh (by decide) rfl rfl) rfl (ax (grdT rfl rfl rfl (decide_eq_true rfl)) (ae cY rfl hb2 rfl) rfl ?_)))))))))
 refine ax (grdT rfl rfl rfl (decide_eq_true rfl)) (bE rfl rfl) rfl (a7 (cK rfl (decide_eq_true rfl) rfl) rfl (ogm rfl rfl (ax (grdT rfl rfl rfl (decide_eq_true rfl)) (az 4 aE rfl am (by decide) rfl rfl) rfl (ax (grdT rfl rfl rfl (decide_eq_true rfl)) (ae aw rfl hb1 rfl) rfl (ax (grdT rfl rfl rfl (decide_eq_true rfl)) (br aA aG aI rfl (by first | assumption | exact Own.rd ‹_› | exact Rd.oC ‹_› hB | exact Own.rd (Own.oC ‹_› hB))) rfl (ax (grdT rfl rfl rfl (decide_eq_true rfl)) (az 4 aC rfl am (by decide) rfl rfl) rfl (ax (grdT rfl rfl rfl (decide_eq_true rfl)) (ae aw rfl hb2 rfl) rfl (ax (grdT rfl rfl rfl (decide_eq_true rfl)) (br aA aG aI rfl (by first | assumption | exact Own.rd ‹_› | exact Rd.oC ‹_› hB | exact Own.rd (Own.oC ‹_› hB))) rfl (ax (grdT rfl rfl rfl (decide_eq_true rfl)) (eA rfl rfl) rfl ?_)))))))))
 refine a7 (cK rfl (decide_eq_true rfl) rfl) rfl (ogm rfl rfl (ax (grdT rfl rfl rfl (decide_eq_true rfl)) (az 5 aE rfl am (by decide) rfl rfl) rfl (ax (grdT rfl rfl rfl (decide_eq_true rfl)) (ae aw rfl hb1 rfl) rfl (ax (grdT rfl rfl rfl (decide_eq_true rfl)) (br aA aG aI rfl (by first | assumption | exact Own.rd ‹_› | exact Rd.oC ‹_› hB | exact Own.rd (Own.oC ‹_› hB))) rfl (ax (grdT rfl rfl rfl (decide_eq_true rfl)) (az 5 aC rfl am (by decide) rfl rfl) rfl (ax (grdT rfl rfl rfl (decide_eq_true rfl)) (ae aw rfl hb2 rfl) rfl (ax (grdT rfl rfl rfl (decide_eq_true rfl)) (br aA aG aI rfl (by first | assumption | exact Own.rd ‹_› | exact Rd.oC ‹_› hB | exact Own.rd (Own.oC ‹_› hB))) rfl (ax (grdT rfl rfl rfl (decide_eq_true rfl)) (eA rfl rfl) rfl (a7 (cK rfl (decide_eq_true rfl) rfl) rfl ?_)))))))))
 refine oga rfl rfl (a6 (af [(4, _)] ⟨rfl, trivial⟩ (al hfin Try.results49 rfl ?_)))
 exact ⟨by simp, hB⟩
theorem ko (i e s n h g gg : Value) (z : Pk) (w : World) (hi : RdB w i z.init) (he : RdB w e z.leaf.enc) (hs : RdB w s z.leaf.sig) (hn : RdB w n z.leaf.name) (hh : RdB w h z.leaf.hash) (hg : RdB w g z.leaf.sg) (hgg : RdB w gg z.sg) (iq eq sq nq hq gq ggq : Value) (wi : RdB w iq z.init) (we : RdB w eq z.leaf.enc) (ws : RdB w sq z.leaf.sig) (wn : RdB w nq z.leaf.name) (wh : RdB w hq z.leaf.hash) (wg : RdB w gq z.leaf.sg) (wgg : RdB w ggq z.sg) : Rets Try.prog 48 [.agg [i, e, s, n, .int .i64 z.leaf.src, h, g, gg].toArray, .agg [iq, eq, sq, nq, .int .i64 z.leaf.src, hq, gq, ggq].toArray] w (fun r w' => r = .bool true ∧ Keep [] w w') := by
 have hB : Keep [] w w := Keep.refl _ _
 refine ai Try.func48 rfl (by decide) Try.ntmps48 rfl (fun fin _ hfin => a5 (aZ (ah (bc (cs := [i, e, s, n, .int .i64 z.leaf.src, h, g, gg]) rfl rfl) rfl ?_)))
 rintro _ w1 ⟨b1, rfl, eb1, hb1, k1, z1⟩
 replace hB := hB.trans k1
 clear eb1 z1
 refine ah (bc (cs := [iq, eq, sq, nq, .int .i64 z.leaf.src, hq, gq, ggq]) rfl rfl) rfl ?_
 rintro _ w2 ⟨b2, rfl, eb2, hb2, k2, z2⟩
 obtain ⟨hB, hb1⟩ := bX k2 hB hb1
 clear eb2 z2
 refine oga rfl rfl (a6 (a5 (aZ (a7 (az 0 aL rfl am (by decide) rfl rfl) rfl (a7 (ae aw rfl hb1 rfl) rfl (a7 (br aA aG aI rfl (by first | assumption | exact Own.rd ‹_› | exact Rd.oC ‹_› hB | exact Own.rd (Own.oC ‹_› hB))) rfl (a7 (az 0 aK rfl am (by decide) rfl rfl) rfl (a7 (ae aw rfl hb2 rfl) rfl (a7 (br aA aG aI rfl (by first | assumption | exact Own.rd ‹_› | exact Rd.oC ‹_› hB | exact Own.rd (Own.oC ‹_› hB))) rfl (a7 (eA rfl rfl) rfl (ogm rfl rfl (ax (grdT rfl rfl rfl (decide_eq_true rfl)) (az 1 aL rfl bk (by decide) rfl rfl) rfl (ax (grdT rfl rfl rfl (decide_eq_true rfl)) (au (cs' := [_, _, _, _, _, _]) dt bk rfl hb1 rfl rfl) rfl ?_)))))))))))))
 refine ax (grdT rfl rfl rfl (decide_eq_true rfl)) (az 1 aK rfl bm (by decide) rfl rfl) rfl (ax (grdT rfl rfl rfl (decide_eq_true rfl)) (au (cs' := [_, _, _, _, _, _]) fB bm rfl hb2 rfl rfl) rfl (f7 (grdT rfl rfl rfl (decide_eq_true rfl)) (ab (vs := [_, _]) rfl (fw _ _ _ _ _ z.leaf _ (by first | assumption | exact Own.rd ‹_› | exact Rd.oC ‹_› hB | exact Own.rd (Own.oC ‹_› hB)) (by first | assumption | exact Own.rd ‹_› | exact Rd.oC ‹_› hB | exact Own.rd (Own.oC ‹_› hB)) (by first | assumption | exact Own.rd ‹_› | exact Rd.oC ‹_› hB | exact Own.rd (Own.oC ‹_› hB)) (by first | assumption | exact Own.rd ‹_› | exact Rd.oC ‹_› hB | exact Own.rd (Own.oC ‹_› hB)) (by first | assumption | exact Own.rd ‹_› | exact Rd.oC ‹_› hB | exact Own.rd (Own.oC ‹_› hB)) _ _ _ _ _ (by first | assumption | exact Own.rd ‹_› | exact Rd.oC ‹_› hB | exact Own.rd (Own.oC ‹_› hB)) (by first | assumption | exact Own.rd ‹_› | exact Rd.oC ‹_› hB | exact Own.rd (Own.oC ‹_› hB)) (by first | assumption | exact Own.rd ‹_› | exact Rd.oC ‹_› hB | exact Own.rd (Own.oC ‹_› hB)) (by first | assumption | exact Own.rd ‹_› | exact Rd.oC ‹_› hB | exact Own.rd (Own.oC ‹_› hB)) (by first | assumption | exact Own.rd ‹_› | exact Rd.oC ‹_› hB | exact Own.rd (Own.oC ‹_› hB)))) rfl ?_))
 rintro _ w3 ⟨rfl, k3⟩
 obtain ⟨hB, hb1, hb2⟩ := cS k3 hB hb1 hb2
 refine a7 (cK rfl (decide_eq_true rfl) rfl) rfl (ogm rfl rfl (ax (grdT rfl rfl rfl rfl) (az 7 aL rfl am (by decide) rfl rfl) rfl (ax (grdT rfl rfl rfl rfl) (ae aw rfl hb1 rfl) rfl (ax (grdT rfl rfl rfl rfl) (br aA aG aI rfl (by first | assumption | exact Own.rd ‹_› | exact Rd.oC ‹_› hB | exact Own.rd (Own.oC ‹_› hB))) rfl (ax (grdT rfl rfl rfl rfl) (az 7 aK rfl am (by decide) rfl rfl) rfl (ax (grdT rfl rfl rfl rfl) (ae aw rfl hb2 rfl) rfl (ax (grdT rfl rfl rfl rfl) (br aA aG aI rfl (by first | assumption | exact Own.rd ‹_› | exact Rd.oC ‹_› hB | exact Own.rd (Own.oC ‹_› hB))) rfl (ax (grdT rfl rfl rfl rfl) (eA rfl rfl) rfl (a7 (cK rfl rfl rfl) rfl ?_)))))))))
 refine oga rfl rfl (a6 (af [(4, _)] ⟨rfl, trivial⟩ (al hfin Try.results48 rfl ?_)))
 exact ⟨by simp, hB⟩
theorem kn (i e s n h g gg e2 s2 n2 h2 g2 y1 y2 y3 : Value) (x : Pr) (w : World) (hi : RdB w i x.pk.init) (he : RdB w e x.pk.leaf.enc) (hs : RdB w s x.pk.leaf.sig) (hn : RdB w n x.pk.leaf.name) (hh : RdB w h x.pk.leaf.hash) (hg : RdB w g x.pk.leaf.sg) (hgg : RdB w gg x.pk.sg) (he2 : RdB w e2 x.lf.enc) (hs2 : RdB w s2 x.lf.sig) (hn2 : RdB w n2 x.lf.name) (hh2 : RdB w h2 x.lf.hash) (hg2 : RdB w g2 x.lf.sg) (hy1 : RdB w y1 x.psk) (hy2 : RdB w y2 x.nonce) (hy3 : RdB w y3 x.enc) (iq eq sq nq hq gq ggq e2q s2q n2q h2q g2q y1q y2q y3q : Value) (wi : RdB w iq x.pk.init) (we : RdB w eq x.pk.leaf.enc) (ws : RdB w sq x.pk.leaf.sig) (wn : RdB w nq x.pk.leaf.name) (wh : RdB w hq x.pk.leaf.hash) (wg : RdB w gq x.pk.leaf.sg) (wgg : RdB w ggq x.pk.sg) (we2 : RdB w e2q x.lf.enc) (ws2 : RdB w s2q x.lf.sig) (wn2 : RdB w n2q x.lf.name) (wh2 : RdB w h2q x.lf.hash) (wg2 : RdB w g2q x.lf.sg) (wy1 : RdB w y1q x.psk) (wy2 : RdB w y2q x.nonce) (wy3 : RdB w y3q x.enc) : Rets Try.prog 12 [.agg [.int .i64 x.kind, i, e, s, n, .int .i64 x.pk.leaf.src, h, g, gg, e2, s2, n2, .int .i64 x.lf.src, h2, g2, .int .i64 x.ix, y1, y2, y3].toArray, .agg [.int .i64 x.kind, iq, eq, sq, nq, .int .i64 x.pk.leaf.src, hq, gq, ggq, e2q, s2q, n2q, .int .i64 x.lf.src, h2q, g2q, .int .i64 x.ix, y1q, y2q, y3q].toArray] w (fun r w' => r = .bool true ∧ Keep [] w w') := by
 have hB : Keep [] w w := Keep.refl _ _
 refine ai Try.func12 rfl (by decide) Try.ntmps12 rfl (fun fin _ hfin => a5 (aZ (ah (bc (cs := [.int .i64 x.kind, i, e, s, n, .int .i64 x.pk.leaf.src, h, g, gg, e2, s2, n2, .int .i64 x.lf.src, h2, g2, .int .i64 x.ix, y1, y2, y3]) rfl rfl) rfl ?_)))
 rintro _ w1 ⟨b1, rfl, eb1, hb1, k1, z1⟩
 replace hB := hB.trans k1
 clear eb1 z1
 refine ah (bc (cs := [.int .i64 x.kind, iq, eq, sq, nq, .int .i64 x.pk.leaf.src, hq, gq, ggq, e2q, s2q, n2q, .int .i64 x.lf.src, h2q, g2q, .int .i64 x.ix, y1q, y2q, y3q]) rfl rfl) rfl ?_
 rintro _ w2 ⟨b2, rfl, eb2, hb2, k2, z2⟩
 obtain ⟨hB, hb1⟩ := bX k2 hB hb1
 clear eb2 z2
 refine oga rfl rfl (a6 (a5 (aZ (a7 (az 0 aH rfl bh (by decide) rfl rfl) rfl (a7 (ae cY rfl hb1 rfl) rfl (a7 (az 0 aB rfl bh (by decide) rfl rfl) rfl (a7 (ae cY rfl hb2 rfl) rfl (a7 (bE rfl rfl) rfl (ogm rfl rfl (ax (grdT rfl rfl rfl (decide_eq_true rfl)) (az 1 aH rfl cg (by decide) rfl rfl) rfl (ax (grdT rfl rfl rfl (decide_eq_true rfl)) (au (cs' := [_, _, _, _, _, _, _, _]) fu cg rfl hb1 rfl rfl) rfl (ax (grdT rfl rfl rfl (decide_eq_true rfl)) (az 1 aB rfl cp (by decide) rfl rfl) rfl (ax (grdT rfl rfl rfl (decide_eq_true rfl)) (au (cs' := [_, _, _, _, _, _, _, _]) ii cp rfl hb2 rfl rfl) rfl ?_)))))))))))))
 refine f7 (grdT rfl rfl rfl (decide_eq_true rfl)) (ab (vs := [_, _]) rfl (ko _ _ _ _ _ _ _ x.pk _ (by first | assumption | exact Own.rd ‹_› | exact Rd.oC ‹_› hB | exact Own.rd (Own.oC ‹_› hB)) (by first | assumption | exact Own.rd ‹_› | exact Rd.oC ‹_› hB | exact Own.rd (Own.oC ‹_› hB)) (by first | assumption | exact Own.rd ‹_› | exact Rd.oC ‹_› hB | exact Own.rd (Own.oC ‹_› hB)) (by first | assumption | exact Own.rd ‹_› | exact Rd.oC ‹_› hB | exact Own.rd (Own.oC ‹_› hB)) (by first | assumption | exact Own.rd ‹_› | exact Rd.oC ‹_› hB | exact Own.rd (Own.oC ‹_› hB)) (by first | assumption | exact Own.rd ‹_› | exact Rd.oC ‹_› hB | exact Own.rd (Own.oC ‹_› hB)) (by first | assumption | exact Own.rd ‹_› | exact Rd.oC ‹_› hB | exact Own.rd (Own.oC ‹_› hB)) _ _ _ _ _ _ _ (by first | assumption | exact Own.rd ‹_› | exact Rd.oC ‹_› hB | exact Own.rd (Own.oC ‹_› hB)) (by first | assumption | exact Own.rd ‹_› | exact Rd.oC ‹_› hB | exact Own.rd (Own.oC ‹_› hB)) (by first | assumption | exact Own.rd ‹_› | exact Rd.oC ‹_› hB | exact Own.rd (Own.oC ‹_› hB)) (by first | assumption | exact Own.rd ‹_› | exact Rd.oC ‹_› hB | exact Own.rd (Own.oC ‹_› hB)) (by first | assumption | exact Own.rd ‹_› | exact Rd.oC ‹_› hB | exact Own.rd (Own.oC ‹_› hB)) (by first | assumption | exact Own.rd ‹_› | exact Rd.oC ‹_› hB | exact Own.rd (Own.oC ‹_› hB)) (by first | assumption | exact Own.rd ‹_› | exact Rd.oC ‹_› hB | exact Own.rd (Own.oC ‹_› hB)))) rfl ?_
 rintro _ w3 ⟨rfl, k3⟩
 obtain ⟨hB, hb1, hb2⟩ := cS k3 hB hb1 hb2
 refine a7 (cK rfl (decide_eq_true rfl) rfl) rfl (ogm rfl rfl (ax (grdT rfl rfl rfl rfl) (az 9 aH rfl bk (by decide) rfl rfl) rfl (ax (grdT rfl rfl rfl rfl) (au (cs' := [_, _, _, _, _, _]) dt bk rfl hb1 rfl rfl) rfl (ax (grdT rfl rfl rfl rfl) (az 9 aB rfl bm (by decide) rfl rfl) rfl (ax (grdT rfl rfl rfl rfl) (au (cs' := [_, _, _, _, _, _]) fB bm rfl hb2 rfl rfl) rfl ?_)))))
 refine f7 (grdT rfl rfl rfl rfl) (ab (vs := [_, _]) rfl (fw _ _ _ _ _ x.lf _ (by first | assumption | exact Own.rd ‹_› | exact Rd.oC ‹_› hB | exact Own.rd (Own.oC ‹_› hB)) (by first | assumption | exact Own.rd ‹_› | exact Rd.oC ‹_› hB | exact Own.rd (Own.oC ‹_› hB)) (by first | assumption | exact Own.rd ‹_› | exact Rd.oC ‹_› hB | exact Own.rd (Own.oC ‹_› hB)) (by first | assumption | exact Own.rd ‹_› | exact Rd.oC ‹_› hB | exact Own.rd (Own.oC ‹_› hB)) (by first | assumption | exact Own.rd ‹_› | exact Rd.oC ‹_› hB | exact Own.rd (Own.oC ‹_› hB)) _ _ _ _ _ (by first | assumption | exact Own.rd ‹_› | exact Rd.oC ‹_› hB | exact Own.rd (Own.oC ‹_› hB)) (by first | assumption | exact Own.rd ‹_› | exact Rd.oC ‹_› hB | exact Own.rd (Own.oC ‹_› hB)) (by first | assumption | exact Own.rd ‹_› | exact Rd.oC ‹_› hB | exact Own.rd (Own.oC ‹_› hB)) (by first | assumption | exact Own.rd ‹_› | exact Rd.oC ‹_› hB | exact Own.rd (Own.oC ‹_› hB)) (by first | assumption | exact Own.rd ‹_› | exact Rd.oC ‹_› hB | exact Own.rd (Own.oC ‹_› hB)))) rfl ?_
 rintro _ w4 ⟨rfl, k4⟩
 obtain ⟨hB, hb1, hb2⟩ := cS k4 hB hb1 hb2
 refine a7 (cK rfl rfl rfl) rfl (ogm rfl rfl (ax (grdT rfl rfl rfl rfl) (az 15 aH rfl bh (by decide) rfl rfl) rfl (ax (grdT rfl rfl rfl rfl) (ae cY rfl hb1 rfl) rfl (ax (grdT rfl rfl rfl rfl) (az 15 aB rfl bh (by decide) rfl rfl) rfl (ax (grdT rfl rfl rfl rfl) (ae cY rfl hb2 rfl) rfl (ax (grdT rfl rfl rfl rfl) (bE rfl rfl) rfl (a7 (cK rfl rfl rfl) rfl (ogm rfl rfl (ax (grdT rfl rfl rfl (decide_eq_true rfl)) (az 16 aH rfl am (by decide) rfl rfl) rfl (ax (grdT rfl rfl rfl (decide_eq_true rfl)) (ae aw rfl hb1 rfl) rfl ?_))))))))))
 refine ax (grdT rfl rfl rfl (decide_eq_true rfl)) (br aA aG aI rfl (by first | assumption | exact Own.rd ‹_› | exact Rd.oC ‹_› hB | exact Own.rd (Own.oC ‹_› hB))) rfl (ax (grdT rfl rfl rfl (decide_eq_true rfl)) (az 16 aB rfl am (by decide) rfl rfl) rfl (ax (grdT rfl rfl rfl (decide_eq_true rfl)) (ae aw rfl hb2 rfl) rfl (ax (grdT rfl rfl rfl (decide_eq_true rfl)) (br aA aG aI rfl (by first | assumption | exact Own.rd ‹_› | exact Rd.oC ‹_› hB | exact Own.rd (Own.oC ‹_› hB))) rfl (ax (grdT rfl rfl rfl (decide_eq_true rfl)) (eA rfl rfl) rfl (a7 (cK rfl (decide_eq_true rfl) rfl) rfl (ogm rfl rfl (ax (grdT rfl rfl rfl (decide_eq_true rfl)) (az 17 aH rfl am (by decide) rfl rfl) rfl (ax (grdT rfl rfl rfl (decide_eq_true rfl)) (ae aw rfl hb1 rfl) rfl (ax (grdT rfl rfl rfl (decide_eq_true rfl)) (br aA aG aI rfl (by first | assumption | exact Own.rd ‹_› | exact Rd.oC ‹_› hB | exact Own.rd (Own.oC ‹_› hB))) rfl ?_)))))))))
 refine ax (grdT rfl rfl rfl (decide_eq_true rfl)) (az 17 aB rfl am (by decide) rfl rfl) rfl (ax (grdT rfl rfl rfl (decide_eq_true rfl)) (ae aw rfl hb2 rfl) rfl (ax (grdT rfl rfl rfl (decide_eq_true rfl)) (br aA aG aI rfl (by first | assumption | exact Own.rd ‹_› | exact Rd.oC ‹_› hB | exact Own.rd (Own.oC ‹_› hB))) rfl (ax (grdT rfl rfl rfl (decide_eq_true rfl)) (eA rfl rfl) rfl (a7 (cK rfl (decide_eq_true rfl) rfl) rfl (ogm rfl rfl (ax (grdT rfl rfl rfl (decide_eq_true rfl)) (az 18 aH rfl am (by decide) rfl rfl) rfl (ax (grdT rfl rfl rfl (decide_eq_true rfl)) (ae aw rfl hb1 rfl) rfl (ax (grdT rfl rfl rfl (decide_eq_true rfl)) (br aA aG aI rfl (by first | assumption | exact Own.rd ‹_› | exact Rd.oC ‹_› hB | exact Own.rd (Own.oC ‹_› hB))) rfl (ax (grdT rfl rfl rfl (decide_eq_true rfl)) (az 18 aB rfl am (by decide) rfl rfl) rfl ?_)))))))))
 refine ax (grdT rfl rfl rfl (decide_eq_true rfl)) (ae aw rfl hb2 rfl) rfl (ax (grdT rfl rfl rfl (decide_eq_true rfl)) (br aA aG aI rfl (by first | assumption | exact Own.rd ‹_› | exact Rd.oC ‹_› hB | exact Own.rd (Own.oC ‹_› hB))) rfl (ax (grdT rfl rfl rfl (decide_eq_true rfl)) (eA rfl rfl) rfl (a7 (cK rfl (decide_eq_true rfl) rfl) rfl (oga rfl rfl (a6 (af [(4, _)] ⟨rfl, trivial⟩ (al hfin Try.results12 rfl ?_)))))))
 exact ⟨by simp, hB⟩
theorem cM (v : Value) (xs : List UInt8) (w : World) (hv : RdB w v xs) (hx : xs.length ≤ 140737488355328) : Rets Try.prog 60 [v] w (fun u w' => OwnB w' w.heap.size u xs ∧ Keep [] w w') := by
 have hB : Keep [] w w := Keep.refl _ _
 refine ai Try.func60 rfl (by decide) Try.ntmps60 rfl (fun fin _ hfin => a5 (aZ (oga rfl rfl (a6 (a5 (aZ (ah (de (m := 0) (xs := []) (vs := []) aA cT (by decide) rfl rfl rfl (by first | (simp; done) | (intro v hv; rw [List.mem_singleton] at hv; subst hv; rfl)) (by decide)) rfl ?_)))))))
 rintro v1 w1 ⟨o1, nn1, lb1, k1, z1⟩
 have z_k1 := k1.size
 replace hB := hB.trans k1
 replace o1 : Own w1 _ _ 1 v1 0 (bv []) := o1
 refine ogm rfl rfl (ah (bW  aA cT rfl (by first | assumption | exact a8 _ _ _ _) rfl (by first | assumption | exact Own.rd ‹_› | exact Rd.oC ‹_› hB | exact Own.rd (Own.oC ‹_› hB)) (by first | omega | (simp only [cI, List.length_append, Int.toNat_natCast] at *; omega)) (by have := hB.size; omega)) rfl ?_)
 rintro v2 w2 ⟨o2, k2, lb2, nn2⟩
 have z_k2 := k2.size
 replace hB := hB.new k2 (fun x hx => .inl (o1.blk x hx).1)
 refine oga rfl rfl (a6 (al hfin Try.results60 rfl ?_))
 exact ⟨by simpa [OwnB] using o2, hB⟩
theorem eE (v : Value) (xs : List UInt8) (w : World) (hv : RdB w v xs) (hx : xs.length ≤ 140737488355328) : Rets Try.prog 25 [v] w (fun u w' => OwnB w' w.heap.size u xs ∧ Keep [] w w') := by
 have hB : Keep [] w w := Keep.refl _ _
 refine ai Try.func25 rfl (by decide) Try.ntmps25 rfl (fun fin _ hfin => a5 (aZ (oga rfl rfl (a6 (a5 (aZ (ah (de (m := 0) (xs := []) (vs := []) aA cT (by decide) rfl rfl rfl (by first | (simp; done) | (intro v hv; rw [List.mem_singleton] at hv; subst hv; rfl)) (by decide)) rfl ?_)))))))
 rintro v1 w1 ⟨o1, nn1, lb1, k1, z1⟩
 have z_k1 := k1.size
 replace hB := hB.trans k1
 replace o1 : Own w1 _ _ 1 v1 0 (bv []) := o1
 refine ogm rfl rfl (ah (bW  aA cT rfl (by first | assumption | exact a8 _ _ _ _) rfl (by first | assumption | exact Own.rd ‹_› | exact Rd.oC ‹_› hB | exact Own.rd (Own.oC ‹_› hB)) (by first | omega | (simp only [cI, List.length_append, Int.toNat_natCast] at *; omega)) (by have := hB.size; omega)) rfl ?_)
 rintro v2 w2 ⟨o2, k2, lb2, nn2⟩
 have z_k2 := k2.size
 replace hB := hB.new k2 (fun x hx => .inl (o1.blk x hx).1)
 refine oga rfl rfl (a6 (al hfin Try.results25 rfl ?_))
 exact ⟨by simpa [OwnB] using o2, hB⟩
theorem gC (e s n h g : Value) (l : Lf) (w : World) (he : RdB w e l.enc) (hs : RdB w s l.sig) (hn : RdB w n l.name) (hh : RdB w h l.hash) (hg : RdB w g l.sg) (t0 : l.enc.length ≤ 140737488351232) (t1 : l.sig.length ≤ 140737488351232) (t2 : l.name.length ≤ 140737488351232) (t3 : l.hash.length ≤ 140737488351232) (t4 : l.sg.length ≤ 140737488351232) : Rets Try.prog 24 [.agg [e, s, n, .int .i64 l.src, h, g].toArray] w (fun r w' => ∃ eq sq nq hq gq, r = .agg [eq, sq, nq, .int .i64 l.src, hq, gq].toArray ∧ OwnB w' w.heap.size eq l.enc ∧ OwnB w' w.heap.size sq l.sig ∧ OwnB w' w.heap.size nq l.name ∧ OwnB w' w.heap.size hq l.hash ∧ OwnB w' w.heap.size gq l.sg ∧ Keep [] w w') := by
 have hB : Keep [] w w := Keep.refl _ _
 refine ai Try.func24 rfl (by decide) Try.ntmps24 rfl (fun fin _ hfin => a5 (aZ (ah (bc (cs := [e, s, n, .int .i64 l.src, h, g]) rfl rfl) rfl ?_)))
 rintro _ w1 ⟨b1, rfl, eb1, hb1, k1, z1⟩
 have ge_b1 : w.heap.size ≤ b1 := by have := hB.size; omega
 replace hB := hB.trans k1
 clear eb1 z1
 refine ah (bG bk) rfl ?_
 rintro _ w2 ⟨b2, rfl, eb2, hb2, k2, z2⟩
 have ge_b2 : w.heap.size ≤ b2 := by have := hB.size; omega
 have ne_b1_b2 : b1 ≠ b2 := by have := hb1.lt; omega
 obtain ⟨hB, hb1⟩ := bX k2 hB hb1
 clear eb2 z2
 refine a6 (a5 (jR 18 [0, 1, 3, 4, 6, 7, 9, 10, 11, 12, 14, 15, 2, 5, 8, 13, 16, 17] [2, 5, 8, 13, 16] [] mixed [(1, _), (2, _)] ⟨rfl, rfl, trivial⟩ (by decide +kernel) rfl (fun w3 k3 => ?_)))
 obtain ⟨hB, hb1, hb2⟩ := cS k3 hB hb1 hb2
 refine co 1 rfl rfl rfl rfl (fun W' kk => az 0 aC rfl am (by decide) rfl rfl) (co 3 rfl rfl rfl rfl (fun W' kk => ae aw rfl (Bk.oC hb1 kk) rfl) (co 1 rfl rfl rfl rfl (fun W' kk => az 1 aC rfl am (by decide) rfl rfl) (co 6 rfl rfl rfl rfl (fun W' kk => ae aw rfl (Bk.oC hb1 kk) rfl) (co 1 rfl rfl rfl rfl (fun W' kk => az 2 aC rfl am (by decide) rfl rfl) (co 9 rfl rfl rfl rfl (fun W' kk => ae aw rfl (Bk.oC hb1 kk) rfl) (co 1 rfl rfl rfl rfl (fun W' kk => az 3 aC rfl bh (by decide) rfl rfl) (co 12 rfl rfl rfl rfl (fun W' kk => ae cY rfl (Bk.oC hb1 kk) rfl) (co 1 rfl rfl rfl rfl (fun W' kk => az 4 aC rfl am (by decide) rfl rfl) ?_))))))))
 refine co 14 rfl rfl rfl rfl (fun W' kk => ae aw rfl (Bk.oC hb1 kk) rfl) (co 1 rfl rfl rfl rfl (fun W' kk => az 5 aC rfl am (by decide) rfl rfl) (co 17 rfl rfl rfl rfl (fun W' kk => ae aw rfl (Bk.oC hb1 kk) rfl) (gS [(4, _)] rfl rfl ⟨rfl, trivial⟩ rfl (ab (vs := [_]) rfl (cM _ _ _ (by first | assumption | exact Own.rd ‹_› | exact Rd.oC ‹_› hB | exact Own.rd (Own.oC ‹_› hB)) (by omega))) ?_)))
 rintro v1 w4 ⟨o1, k4⟩
 refine ⟨k4, ?_⟩
 have gl_o1 := hB.size
 have sb_b2_o1 := fun x hx => (show x ≠ b2 from by have h1 := (o1.blk x hx).1; have h2 := hb2.lt; omega)
 obtain ⟨hB, hb1, hb2⟩ := cS k4 hB hb1 hb2
 refine gS [(7, _)] rfl rfl ⟨rfl, trivial⟩ rfl (ab (vs := [_]) rfl (cM _ _ _ (by first | assumption | exact Own.rd ‹_› | exact Rd.oC ‹_› hB | exact Own.rd (Own.oC ‹_› hB)) (by omega))) ?_
 rintro v2 w5 ⟨o2, k5⟩
 refine ⟨k5, ?_⟩
 have gl_o2 := hB.size
 have sb_b2_o2 := fun x hx => (show x ≠ b2 from by have h1 := (o2.blk x hx).1; have h2 := hb2.lt; omega)
 obtain ⟨hb1, hb2⟩ := cm k5 hb1 hb2
 replace o1 := o1.oC k5
 replace hB := hB.trans k5
 refine gS [(10, _)] rfl rfl ⟨rfl, trivial⟩ rfl (ab (vs := [_]) rfl (cM _ _ _ (by first | assumption | exact Own.rd ‹_› | exact Rd.oC ‹_› hB | exact Own.rd (Own.oC ‹_› hB)) (by omega))) ?_
 rintro v3 w6 ⟨o3, k6⟩
 refine ⟨k6, ?_⟩
 have gl_o3 := hB.size
 have sb_b2_o3 := fun x hx => (show x ≠ b2 from by have h1 := (o3.blk x hx).1; have h2 := hb2.lt; omega)
 obtain ⟨hb1, hb2⟩ := cm k6 hb1 hb2
 replace o1 := o1.oC k6
 replace o2 := o2.oC k6
 replace hB := hB.trans k6
 refine gS [(15, _)] rfl rfl ⟨rfl, trivial⟩ rfl (ab (vs := [_]) rfl (cM _ _ _ (by first | assumption | exact Own.rd ‹_› | exact Rd.oC ‹_› hB | exact Own.rd (Own.oC ‹_› hB)) (by omega))) ?_
 rintro v4 w7 ⟨o4, k7⟩
 refine ⟨k7, ?_⟩
 have gl_o4 := hB.size
 have sb_b2_o4 := fun x hx => (show x ≠ b2 from by have h1 := (o4.blk x hx).1; have h2 := hb2.lt; omega)
 obtain ⟨hb1, hb2⟩ := cm k7 hb1 hb2
 replace o1 := o1.oC k7
 replace o2 := o2.oC k7
 replace o3 := o3.oC k7
 replace hB := hB.trans k7
 refine gS [(18, _)] rfl rfl ⟨rfl, trivial⟩ rfl (ab (vs := [_]) rfl (cM _ _ _ (by first | assumption | exact Own.rd ‹_› | exact Rd.oC ‹_› hB | exact Own.rd (Own.oC ‹_› hB)) (by omega))) ?_
 rintro v5 w8 ⟨o5, k8⟩
 refine ⟨k8, ?_⟩
 have gl_o5 := hB.size
 have sb_b2_o5 := fun x hx => (show x ≠ b2 from by have h1 := (o5.blk x hx).1; have h2 := hb2.lt; omega)
 obtain ⟨hb1, hb2⟩ := cm k8 hb1 hb2
 replace o1 := o1.oC k8
 replace o2 := o2.oC k8
 replace o3 := o3.oC k8
 replace o4 := o4.oC k8
 replace hB := hB.trans k8
 refine nL [(5, _), (8, _), (11, _), (13, _), (16, _), (19, _)] rfl rfl ⟨rfl, rfl, rfl, rfl, rfl, rfl, trivial⟩ rfl (fun W' kk => cA (idx := [0, 1, 2, 3, 4, 5]) (xs := [.tmp 5, .tmp 8, .tmp 11, .tmp 13, .tmp 16, .tmp 19]) (vs := [_, _, _, _, _, _]) (css := [[_], [_], [_], [_], [_], [_]]) (out := [v1, v2, v3, .int .i64 l.src, v4, v5]) pl30 bk rfl rfl ⟨Rd.cells (Own.rd o1), Rd.cells (Own.rd o2), Rd.cells (Own.rd o3), rfl, Rd.cells (Own.rd o4), Rd.cells (Own.rd o5), trivial⟩ rfl rfl) (lA (an (bK bk rfl rfl rfl (by simp only [List.forall_mem_cons]; refine ⟨(by first | rfl | exact Rd.one (by first | assumption | exact Own.rd ‹_› | exact Rd.oC ‹_› hB | exact Own.rd (Own.oC ‹_› hB))), (by first | rfl | exact Rd.one (by first | assumption | exact Own.rd ‹_› | exact Rd.oC ‹_› hB | exact Own.rd (Own.oC ‹_› hB))), (by first | rfl | exact Rd.one (by first | assumption | exact Own.rd ‹_› | exact Rd.oC ‹_› hB | exact Own.rd (Own.oC ‹_› hB))), (by first | rfl | exact Rd.one (by first | assumption | exact Own.rd ‹_› | exact Rd.oC ‹_› hB | exact Own.rd (Own.oC ‹_› hB))), (by first | rfl | exact Rd.one (by first | assumption | exact Own.rd ‹_› | exact Rd.oC ‹_› hB | exact Own.rd (Own.oC ‹_› hB))), (by first | rfl | exact Rd.one (by first | assumption | exact Own.rd ‹_› | exact Rd.oC ‹_› hB | exact Own.rd (Own.oC ‹_› hB))), fun v hv => by cases hv⟩) hb2 rfl) ?_))
 rintro _ w9 ⟨hb3, k9, z3⟩
 replace o1 := o1.keep k9 (fun x hx hm => sb_b2_o1 x hx (List.mem_singleton.1 hm))
 replace o2 := o2.keep k9 (fun x hx hm => sb_b2_o2 x hx (List.mem_singleton.1 hm))
 replace o3 := o3.keep k9 (fun x hx hm => sb_b2_o3 x hx (List.mem_singleton.1 hm))
 replace o4 := o4.keep k9 (fun x hx hm => sb_b2_o4 x hx (List.mem_singleton.1 hm))
 replace o5 := o5.keep k9 (fun x hx hm => sb_b2_o5 x hx (List.mem_singleton.1 hm))
 replace hB := hB.new k9 (nw ge_b2)
 clear z3
 replace hb3 : Bk w9 b2 _ [v1, v2, v3, .int .i64 l.src, v4, v5] := hb3
 refine a6 (af [(2, _)] ⟨rfl, trivial⟩ (dw hfin Try.results24 rfl (ar dt bk hb3 rfl)  ?_))
 exact ⟨_, _, _, _, _, rfl, o1.lo gl_o1, o2.lo gl_o2, o3.lo gl_o3, o4.lo gl_o4, o5.lo gl_o5, hB⟩
theorem lJ (i e s n h g gg : Value) (z : Pk) (w : World) (hi : RdB w i z.init) (he : RdB w e z.leaf.enc) (hs : RdB w s z.leaf.sig) (hn : RdB w n z.leaf.name) (hh : RdB w h z.leaf.hash) (hg : RdB w g z.leaf.sg) (hgg : RdB w gg z.sg) (t0 : z.init.length ≤ 140737488351232) (t1 : z.leaf.enc.length ≤ 140737488351232) (t2 : z.leaf.sig.length ≤ 140737488351232) (t3 : z.leaf.name.length ≤ 140737488351232) (t4 : z.leaf.hash.length ≤ 140737488351232) (t5 : z.leaf.sg.length ≤ 140737488351232) (t6 : z.sg.length ≤ 140737488351232) : Rets Try.prog 23 [.agg [i, e, s, n, .int .i64 z.leaf.src, h, g, gg].toArray] w (fun r w' => ∃ iq eq sq nq hq gq ggq, r = .agg [iq, eq, sq, nq, .int .i64 z.leaf.src, hq, gq, ggq].toArray ∧ OwnB w' w.heap.size iq z.init ∧ OwnB w' w.heap.size eq z.leaf.enc ∧ OwnB w' w.heap.size sq z.leaf.sig ∧ OwnB w' w.heap.size nq z.leaf.name ∧ OwnB w' w.heap.size hq z.leaf.hash ∧ OwnB w' w.heap.size gq z.leaf.sg ∧ OwnB w' w.heap.size ggq z.sg ∧ Keep [] w w') := by
 have hB : Keep [] w w := Keep.refl _ _
 refine ai Try.func23 rfl (by decide) Try.ntmps23 rfl (fun fin _ hfin => a5 (aZ (ah (bc (cs := [i, e, s, n, .int .i64 z.leaf.src, h, g, gg]) rfl rfl) rfl ?_)))
 rintro _ w1 ⟨b1, rfl, eb1, hb1, k1, z1⟩
 have ge_b1 : w.heap.size ≤ b1 := by have := hB.size; omega
 replace hB := hB.trans k1
 clear eb1 z1
 refine ah (bG cg) rfl ?_
 rintro _ w2 ⟨b2, rfl, eb2, hb2, k2, z2⟩
 have ge_b2 : w.heap.size ≤ b2 := by have := hB.size; omega
 have ne_b1_b2 : b1 ≠ b2 := by have := hb1.lt; omega
 obtain ⟨hB, hb1⟩ := bX k2 hB hb1
 clear eb2 z2
 refine a6 (a5 (jR 10 [0, 1, 3, 4, 6, 7, 2, 5, 8, 9] [2, 5, 8] [] mixed [(1, _), (2, _)] ⟨rfl, rfl, trivial⟩ (by decide +kernel) rfl (fun w3 k3 => ?_)))
 obtain ⟨hB, hb1, hb2⟩ := cS k3 hB hb1 hb2
 refine co 1 rfl rfl rfl rfl (fun W' kk => az 0 aK rfl am (by decide) rfl rfl) (co 3 rfl rfl rfl rfl (fun W' kk => ae aw rfl (Bk.oC hb1 kk) rfl) (co 1 rfl rfl rfl rfl (fun W' kk => az 1 aK rfl bm (by decide) rfl rfl) (co 6 rfl rfl rfl rfl (fun W' kk => au (cs' := [_, _, _, _, _, _]) fB bm rfl (Bk.oC hb1 kk) rfl rfl) (co 1 rfl rfl rfl rfl (fun W' kk => az 7 aK rfl am (by decide) rfl rfl) (co 9 rfl rfl rfl rfl (fun W' kk => ae aw rfl (Bk.oC hb1 kk) rfl) (gS [(4, _)] rfl rfl ⟨rfl, trivial⟩ rfl (ab (vs := [_]) rfl (cM _ _ _ (by first | assumption | exact Own.rd ‹_› | exact Rd.oC ‹_› hB | exact Own.rd (Own.oC ‹_› hB)) (by omega))) ?_))))))
 rintro v1 w4 ⟨o1, k4⟩
 refine ⟨k4, ?_⟩
 have gl_o1 := hB.size
 have sb_b2_o1 := fun x hx => (show x ≠ b2 from by have h1 := (o1.blk x hx).1; have h2 := hb2.lt; omega)
 obtain ⟨hB, hb1, hb2⟩ := cS k4 hB hb1 hb2
 refine gS [(7, _)] rfl rfl ⟨rfl, trivial⟩ rfl (ab (vs := [_]) rfl (gC _ _ _ _ _ z.leaf _ (by first | assumption | exact Own.rd ‹_› | exact Rd.oC ‹_› hB | exact Own.rd (Own.oC ‹_› hB)) (by first | assumption | exact Own.rd ‹_› | exact Rd.oC ‹_› hB | exact Own.rd (Own.oC ‹_› hB)) (by first | assumption | exact Own.rd ‹_› | exact Rd.oC ‹_› hB | exact Own.rd (Own.oC ‹_› hB)) (by first | assumption | exact Own.rd ‹_› | exact Rd.oC ‹_› hB | exact Own.rd (Own.oC ‹_› hB)) (by first | assumption | exact Own.rd ‹_› | exact Rd.oC ‹_› hB | exact Own.rd (Own.oC ‹_› hB)) t1 t2 t3 t4 t5)) ?_
 rintro _ w5 ⟨ne1, ns1, nn1, nh1, ng1, rfl, oe1, os1, on1, oh1, og1, k5⟩
 refine ⟨k5, ?_⟩
 have gl_oe1 := hB.size
 have sb_b2_oe1 := fun x hx => (show x ≠ b2 from by have h1 := (oe1.blk x hx).1; have h2 := hb2.lt; omega)
 have gl_os1 := hB.size
 have sb_b2_os1 := fun x hx => (show x ≠ b2 from by have h1 := (os1.blk x hx).1; have h2 := hb2.lt; omega)
 have gl_on1 := hB.size
 have sb_b2_on1 := fun x hx => (show x ≠ b2 from by have h1 := (on1.blk x hx).1; have h2 := hb2.lt; omega)
 have gl_oh1 := hB.size
 have sb_b2_oh1 := fun x hx => (show x ≠ b2 from by have h1 := (oh1.blk x hx).1; have h2 := hb2.lt; omega)
 have gl_og1 := hB.size
 have sb_b2_og1 := fun x hx => (show x ≠ b2 from by have h1 := (og1.blk x hx).1; have h2 := hb2.lt; omega)
 obtain ⟨hb1, hb2⟩ := cm k5 hb1 hb2
 replace o1 := o1.oC k5
 replace hB := hB.trans k5
 refine gS [(10, _)] rfl rfl ⟨rfl, trivial⟩ rfl (ab (vs := [_]) rfl (cM _ _ _ (by first | assumption | exact Own.rd ‹_› | exact Rd.oC ‹_› hB | exact Own.rd (Own.oC ‹_› hB)) (by omega))) ?_
 rintro v2 w6 ⟨o2, k6⟩
 refine ⟨k6, ?_⟩
 have gl_o2 := hB.size
 have sb_b2_o2 := fun x hx => (show x ≠ b2 from by have h1 := (o2.blk x hx).1; have h2 := hb2.lt; omega)
 obtain ⟨hb1, hb2⟩ := cm k6 hb1 hb2
 replace o1 := o1.oC k6
 replace oe1 := oe1.oC k6
 replace os1 := os1.oC k6
 replace on1 := on1.oC k6
 replace oh1 := oh1.oC k6
 replace og1 := og1.oC k6
 replace hB := hB.trans k6
 refine nL [(5, _), (8, _), (11, _)] rfl rfl ⟨rfl, rfl, rfl, trivial⟩ rfl (fun W' kk => cA (idx := [0, 1, 2]) (xs := [.tmp 5, .tmp 8, .tmp 11]) (vs := [_, _, _]) (css := [[_], [ne1, ns1, nn1, .int .i64 z.leaf.src, nh1, ng1], [_]]) (out := [v1, ne1, ns1, nn1, .int .i64 z.leaf.src, nh1, ng1, v2]) pl32 cg rfl rfl ⟨Rd.cells (Own.rd o1), rfl, Rd.cells (Own.rd o2), trivial⟩ rfl rfl) (lA ?_)
 refine an (bK cg rfl rfl rfl (by simp only [List.forall_mem_cons]; refine ⟨(by first | rfl | exact Rd.one (by first | assumption | exact Own.rd ‹_› | exact Rd.oC ‹_› hB | exact Own.rd (Own.oC ‹_› hB))), (by first | rfl | exact Rd.one (by first | assumption | exact Own.rd ‹_› | exact Rd.oC ‹_› hB | exact Own.rd (Own.oC ‹_› hB))), (by first | rfl | exact Rd.one (by first | assumption | exact Own.rd ‹_› | exact Rd.oC ‹_› hB | exact Own.rd (Own.oC ‹_› hB))), (by first | rfl | exact Rd.one (by first | assumption | exact Own.rd ‹_› | exact Rd.oC ‹_› hB | exact Own.rd (Own.oC ‹_› hB))), (by first | rfl | exact Rd.one (by first | assumption | exact Own.rd ‹_› | exact Rd.oC ‹_› hB | exact Own.rd (Own.oC ‹_› hB))), (by first | rfl | exact Rd.one (by first | assumption | exact Own.rd ‹_› | exact Rd.oC ‹_› hB | exact Own.rd (Own.oC ‹_› hB))), (by first | rfl | exact Rd.one (by first | assumption | exact Own.rd ‹_› | exact Rd.oC ‹_› hB | exact Own.rd (Own.oC ‹_› hB))), (by first | rfl | exact Rd.one (by first | assumption | exact Own.rd ‹_› | exact Rd.oC ‹_› hB | exact Own.rd (Own.oC ‹_› hB))), fun v hv => by cases hv⟩) hb2 rfl) ?_
 rintro _ w7 ⟨hb3, k7, z3⟩
 replace o1 := o1.keep k7 (fun x hx hm => sb_b2_o1 x hx (List.mem_singleton.1 hm))
 replace oe1 := oe1.keep k7 (fun x hx hm => sb_b2_oe1 x hx (List.mem_singleton.1 hm))
 replace os1 := os1.keep k7 (fun x hx hm => sb_b2_os1 x hx (List.mem_singleton.1 hm))
 replace on1 := on1.keep k7 (fun x hx hm => sb_b2_on1 x hx (List.mem_singleton.1 hm))
 replace oh1 := oh1.keep k7 (fun x hx hm => sb_b2_oh1 x hx (List.mem_singleton.1 hm))
 replace og1 := og1.keep k7 (fun x hx hm => sb_b2_og1 x hx (List.mem_singleton.1 hm))
 replace o2 := o2.keep k7 (fun x hx hm => sb_b2_o2 x hx (List.mem_singleton.1 hm))
 replace hB := hB.new k7 (nw ge_b2)
 clear z3
 replace hb3 : Bk w7 b2 _ [v1, ne1, ns1, nn1, .int .i64 z.leaf.src, nh1, ng1, v2] := hb3
 refine a6 (af [(2, _)] ⟨rfl, trivial⟩ (dw hfin Try.results23 rfl (ar fu cg hb3 rfl)  ?_))
 exact ⟨_, _, _, _, _, _, _, rfl, o1.lo gl_o1, oe1.lo gl_oe1, os1.lo gl_os1, on1.lo gl_on1, oh1.lo gl_oh1, og1.lo gl_og1, o2.lo gl_o2, hB⟩
theorem lC (i e s n h g gg e2 s2 n2 h2 g2 y1 y2 y3 : Value) (x : Pr) (w : World) (hi : RdB w i x.pk.init) (he : RdB w e x.pk.leaf.enc) (hs : RdB w s x.pk.leaf.sig) (hn : RdB w n x.pk.leaf.name) (hh : RdB w h x.pk.leaf.hash) (hg : RdB w g x.pk.leaf.sg) (hgg : RdB w gg x.pk.sg) (he2 : RdB w e2 x.lf.enc) (hs2 : RdB w s2 x.lf.sig) (hn2 : RdB w n2 x.lf.name) (hh2 : RdB w h2 x.lf.hash) (hg2 : RdB w g2 x.lf.sg) (hy1 : RdB w y1 x.psk) (hy2 : RdB w y2 x.nonce) (hy3 : RdB w y3 x.enc) (t0 : x.pk.init.length ≤ 140737488351232) (t1 : x.pk.leaf.enc.length ≤ 140737488351232) (t2 : x.pk.leaf.sig.length ≤ 140737488351232) (t3 : x.pk.leaf.name.length ≤ 140737488351232) (t4 : x.pk.leaf.hash.length ≤ 140737488351232) (t5 : x.pk.leaf.sg.length ≤ 140737488351232) (t6 : x.pk.sg.length ≤ 140737488351232) (t7 : x.lf.enc.length ≤ 140737488351232) (t8 : x.lf.sig.length ≤ 140737488351232) (t9 : x.lf.name.length ≤ 140737488351232) (t10 : x.lf.hash.length ≤ 140737488351232) (t11 : x.lf.sg.length ≤ 140737488351232) (t12 : x.psk.length ≤ 140737488351232) (t13 : x.nonce.length ≤ 140737488351232) (t14 : x.enc.length ≤ 140737488351232) : Rets Try.prog 6 [.agg [.int .i64 x.kind, i, e, s, n, .int .i64 x.pk.leaf.src, h, g, gg, e2, s2, n2, .int .i64 x.lf.src, h2, g2, .int .i64 x.ix, y1, y2, y3].toArray] w (fun r w' => ∃ iq eq sq nq hq gq ggq e2q s2q n2q h2q g2q y1q y2q y3q, r = .agg [.int .i64 x.kind, iq, eq, sq, nq, .int .i64 x.pk.leaf.src, hq, gq, ggq, e2q, s2q, n2q, .int .i64 x.lf.src, h2q, g2q, .int .i64 x.ix, y1q, y2q, y3q].toArray ∧ OwnB w' w.heap.size iq x.pk.init ∧ OwnB w' w.heap.size eq x.pk.leaf.enc ∧ OwnB w' w.heap.size sq x.pk.leaf.sig ∧ OwnB w' w.heap.size nq x.pk.leaf.name ∧ OwnB w' w.heap.size hq x.pk.leaf.hash ∧ OwnB w' w.heap.size gq x.pk.leaf.sg ∧ OwnB w' w.heap.size ggq x.pk.sg ∧ OwnB w' w.heap.size e2q x.lf.enc ∧ OwnB w' w.heap.size s2q x.lf.sig ∧ OwnB w' w.heap.size n2q x.lf.name ∧ OwnB w' w.heap.size h2q x.lf.hash ∧ OwnB w' w.heap.size g2q x.lf.sg ∧ OwnB w' w.heap.size y1q x.psk ∧ OwnB w' w.heap.size y2q x.nonce ∧ OwnB w' w.heap.size y3q x.enc ∧ Keep [] w w') := by
 have hB : Keep [] w w := Keep.refl _ _
 refine ai Try.func6 rfl (by decide) Try.ntmps6 rfl (fun fin _ hfin => a5 (aZ (ah (bc (cs := [.int .i64 x.kind, i, e, s, n, .int .i64 x.pk.leaf.src, h, g, gg, e2, s2, n2, .int .i64 x.lf.src, h2, g2, .int .i64 x.ix, y1, y2, y3]) rfl rfl) rfl ?_)))
 rintro _ w1 ⟨b1, rfl, eb1, hb1, k1, z1⟩
 have ge_b1 : w.heap.size ≤ b1 := by have := hB.size; omega
 replace hB := hB.trans k1
 clear eb1 z1
 refine ah (bG bz) rfl ?_
 rintro _ w2 ⟨b2, rfl, eb2, hb2, k2, z2⟩
 have ge_b2 : w.heap.size ≤ b2 := by have := hB.size; omega
 have ne_b1_b2 : b1 ≠ b2 := by have := hb1.lt; omega
 obtain ⟨hB, hb1⟩ := bX k2 hB hb1
 clear eb2 z2
 refine a6 (a5 (jR 20 [0, 1, 2, 3, 5, 6, 8, 9, 10, 11, 13, 14, 16, 17, 4, 7, 12, 15, 18, 19] [4, 7, 12, 15, 18] [] mixed [(1, _), (2, _)] ⟨rfl, rfl, trivial⟩ (by decide +kernel) rfl (fun w3 k3 => ?_)))
 obtain ⟨hB, hb1, hb2⟩ := cS k3 hB hb1 hb2
 refine co 1 rfl rfl rfl rfl (fun W' kk => az 0 aB rfl bh (by decide) rfl rfl) (co 3 rfl rfl rfl rfl (fun W' kk => ae cY rfl (Bk.oC hb1 kk) rfl) (co 1 rfl rfl rfl rfl (fun W' kk => az 1 aB rfl cp (by decide) rfl rfl) (co 5 rfl rfl rfl rfl (fun W' kk => au (cs' := [_, _, _, _, _, _, _, _]) ii cp rfl (Bk.oC hb1 kk) rfl rfl) (co 1 rfl rfl rfl rfl (fun W' kk => az 9 aB rfl bm (by decide) rfl rfl) (co 8 rfl rfl rfl rfl (fun W' kk => au (cs' := [_, _, _, _, _, _]) fB bm rfl (Bk.oC hb1 kk) rfl rfl) (co 1 rfl rfl rfl rfl (fun W' kk => az 15 aB rfl bh (by decide) rfl rfl) (co 11 rfl rfl rfl rfl (fun W' kk => ae cY rfl (Bk.oC hb1 kk) rfl) (co 1 rfl rfl rfl rfl (fun W' kk => az 16 aB rfl am (by decide) rfl rfl) ?_))))))))
 refine co 13 rfl rfl rfl rfl (fun W' kk => ae aw rfl (Bk.oC hb1 kk) rfl) (co 1 rfl rfl rfl rfl (fun W' kk => az 17 aB rfl am (by decide) rfl rfl) (co 16 rfl rfl rfl rfl (fun W' kk => ae aw rfl (Bk.oC hb1 kk) rfl) (co 1 rfl rfl rfl rfl (fun W' kk => az 18 aB rfl am (by decide) rfl rfl) (co 19 rfl rfl rfl rfl (fun W' kk => ae aw rfl (Bk.oC hb1 kk) rfl) (gS [(6, _)] rfl rfl ⟨rfl, trivial⟩ rfl (ab (vs := [_]) rfl (lJ _ _ _ _ _ _ _ x.pk _ (by first | assumption | exact Own.rd ‹_› | exact Rd.oC ‹_› hB | exact Own.rd (Own.oC ‹_› hB)) (by first | assumption | exact Own.rd ‹_› | exact Rd.oC ‹_› hB | exact Own.rd (Own.oC ‹_› hB)) (by first | assumption | exact Own.rd ‹_› | exact Rd.oC ‹_› hB | exact Own.rd (Own.oC ‹_› hB)) (by first | assumption | exact Own.rd ‹_› | exact Rd.oC ‹_› hB | exact Own.rd (Own.oC ‹_› hB)) (by first | assumption | exact Own.rd ‹_› | exact Rd.oC ‹_› hB | exact Own.rd (Own.oC ‹_› hB)) (by first | assumption | exact Own.rd ‹_› | exact Rd.oC ‹_› hB | exact Own.rd (Own.oC ‹_› hB)) (by first | assumption | exact Own.rd ‹_› | exact Rd.oC ‹_› hB | exact Own.rd (Own.oC ‹_› hB)) t0 t1 t2 t3 t4 t5 t6)) ?_)))))
 rintro _ w4 ⟨ni1, ne1, ns1, nn1, nh1, ng1, ngg1, rfl, oi1, oe1, os1, on1, oh1, og1, ogg1, k4⟩
 refine ⟨k4, ?_⟩
 have gl_oi1 := hB.size
 have sb_b2_oi1 := fun x hx => (show x ≠ b2 from by have h1 := (oi1.blk x hx).1; have h2 := hb2.lt; omega)
 have gl_oe1 := hB.size
 have sb_b2_oe1 := fun x hx => (show x ≠ b2 from by have h1 := (oe1.blk x hx).1; have h2 := hb2.lt; omega)
 have gl_os1 := hB.size
 have sb_b2_os1 := fun x hx => (show x ≠ b2 from by have h1 := (os1.blk x hx).1; have h2 := hb2.lt; omega)
 have gl_on1 := hB.size
 have sb_b2_on1 := fun x hx => (show x ≠ b2 from by have h1 := (on1.blk x hx).1; have h2 := hb2.lt; omega)
 have gl_oh1 := hB.size
 have sb_b2_oh1 := fun x hx => (show x ≠ b2 from by have h1 := (oh1.blk x hx).1; have h2 := hb2.lt; omega)
 have gl_og1 := hB.size
 have sb_b2_og1 := fun x hx => (show x ≠ b2 from by have h1 := (og1.blk x hx).1; have h2 := hb2.lt; omega)
 have gl_ogg1 := hB.size
 have sb_b2_ogg1 := fun x hx => (show x ≠ b2 from by have h1 := (ogg1.blk x hx).1; have h2 := hb2.lt; omega)
 obtain ⟨hB, hb1, hb2⟩ := cS k4 hB hb1 hb2
 refine gS [(9, _)] rfl rfl ⟨rfl, trivial⟩ rfl (ab (vs := [_]) rfl (gC _ _ _ _ _ x.lf _ (by first | assumption | exact Own.rd ‹_› | exact Rd.oC ‹_› hB | exact Own.rd (Own.oC ‹_› hB)) (by first | assumption | exact Own.rd ‹_› | exact Rd.oC ‹_› hB | exact Own.rd (Own.oC ‹_› hB)) (by first | assumption | exact Own.rd ‹_› | exact Rd.oC ‹_› hB | exact Own.rd (Own.oC ‹_› hB)) (by first | assumption | exact Own.rd ‹_› | exact Rd.oC ‹_› hB | exact Own.rd (Own.oC ‹_› hB)) (by first | assumption | exact Own.rd ‹_› | exact Rd.oC ‹_› hB | exact Own.rd (Own.oC ‹_› hB)) t7 t8 t9 t10 t11)) ?_
 rintro _ w5 ⟨ne21, ns21, nn21, nh21, ng21, rfl, oe21, os21, on21, oh21, og21, k5⟩
 refine ⟨k5, ?_⟩
 have gl_oe21 := hB.size
 have sb_b2_oe21 := fun x hx => (show x ≠ b2 from by have h1 := (oe21.blk x hx).1; have h2 := hb2.lt; omega)
 have gl_os21 := hB.size
 have sb_b2_os21 := fun x hx => (show x ≠ b2 from by have h1 := (os21.blk x hx).1; have h2 := hb2.lt; omega)
 have gl_on21 := hB.size
 have sb_b2_on21 := fun x hx => (show x ≠ b2 from by have h1 := (on21.blk x hx).1; have h2 := hb2.lt; omega)
 have gl_oh21 := hB.size
 have sb_b2_oh21 := fun x hx => (show x ≠ b2 from by have h1 := (oh21.blk x hx).1; have h2 := hb2.lt; omega)
 have gl_og21 := hB.size
 have sb_b2_og21 := fun x hx => (show x ≠ b2 from by have h1 := (og21.blk x hx).1; have h2 := hb2.lt; omega)
 obtain ⟨hb1, hb2⟩ := cm k5 hb1 hb2
 replace oi1 := oi1.oC k5
 replace oe1 := oe1.oC k5
 replace os1 := os1.oC k5
 replace on1 := on1.oC k5
 replace oh1 := oh1.oC k5
 replace og1 := og1.oC k5
 replace ogg1 := ogg1.oC k5
 replace hB := hB.trans k5
 refine gS [(14, _)] rfl rfl ⟨rfl, trivial⟩ rfl (ab (vs := [_]) rfl (eE _ _ _ (by first | assumption | exact Own.rd ‹_› | exact Rd.oC ‹_› hB | exact Own.rd (Own.oC ‹_› hB)) (by omega))) ?_
 rintro v1 w6 ⟨o1, k6⟩
 refine ⟨k6, ?_⟩
 have gl_o1 := hB.size
 have sb_b2_o1 := fun x hx => (show x ≠ b2 from by have h1 := (o1.blk x hx).1; have h2 := hb2.lt; omega)
 obtain ⟨hb1, hb2⟩ := cm k6 hb1 hb2
 replace oi1 := oi1.oC k6
 replace oe1 := oe1.oC k6
 replace os1 := os1.oC k6
 replace on1 := on1.oC k6
 replace oh1 := oh1.oC k6
 replace og1 := og1.oC k6
 replace ogg1 := ogg1.oC k6
 replace oe21 := oe21.oC k6
 replace os21 := os21.oC k6
 replace on21 := on21.oC k6
 replace oh21 := oh21.oC k6
 replace og21 := og21.oC k6
 replace hB := hB.trans k6
 refine gS [(17, _)] rfl rfl ⟨rfl, trivial⟩ rfl (ab (vs := [_]) rfl (eE _ _ _ (by first | assumption | exact Own.rd ‹_› | exact Rd.oC ‹_› hB | exact Own.rd (Own.oC ‹_› hB)) (by omega))) ?_
 rintro v2 w7 ⟨o2, k7⟩
 refine ⟨k7, ?_⟩
 have gl_o2 := hB.size
 have sb_b2_o2 := fun x hx => (show x ≠ b2 from by have h1 := (o2.blk x hx).1; have h2 := hb2.lt; omega)
 obtain ⟨hb1, hb2⟩ := cm k7 hb1 hb2
 replace oi1 := oi1.oC k7
 replace oe1 := oe1.oC k7
 replace os1 := os1.oC k7
 replace on1 := on1.oC k7
 replace oh1 := oh1.oC k7
 replace og1 := og1.oC k7
 replace ogg1 := ogg1.oC k7
 replace oe21 := oe21.oC k7
 replace os21 := os21.oC k7
 replace on21 := on21.oC k7
 replace oh21 := oh21.oC k7
 replace og21 := og21.oC k7
 replace o1 := o1.oC k7
 replace hB := hB.trans k7
 refine gS [(20, _)] rfl rfl ⟨rfl, trivial⟩ rfl (ab (vs := [_]) rfl (eE _ _ _ (by first | assumption | exact Own.rd ‹_› | exact Rd.oC ‹_› hB | exact Own.rd (Own.oC ‹_› hB)) (by omega))) ?_
 rintro v3 w8 ⟨o3, k8⟩
 refine ⟨k8, ?_⟩
 have gl_o3 := hB.size
 have sb_b2_o3 := fun x hx => (show x ≠ b2 from by have h1 := (o3.blk x hx).1; have h2 := hb2.lt; omega)
 obtain ⟨hb1, hb2⟩ := cm k8 hb1 hb2
 replace oi1 := oi1.oC k8
 replace oe1 := oe1.oC k8
 replace os1 := os1.oC k8
 replace on1 := on1.oC k8
 replace oh1 := oh1.oC k8
 replace og1 := og1.oC k8
 replace ogg1 := ogg1.oC k8
 replace oe21 := oe21.oC k8
 replace os21 := os21.oC k8
 replace on21 := on21.oC k8
 replace oh21 := oh21.oC k8
 replace og21 := og21.oC k8
 replace o1 := o1.oC k8
 replace o2 := o2.oC k8
 replace hB := hB.trans k8
 refine nL [(4, _), (7, _), (10, _), (12, _), (15, _), (18, _), (21, _)] rfl rfl ⟨rfl, rfl, rfl, rfl, rfl, rfl, rfl, trivial⟩ rfl (fun W' kk => cA (idx := [0, 1, 2, 3, 4, 5, 6]) (xs := [.tmp 4, .tmp 7, .tmp 10, .tmp 12, .tmp 15, .tmp 18, .tmp 21]) (vs := [_, _, _, _, _, _, _]) (css := [[_], [ni1, ne1, ns1, nn1, .int .i64 x.pk.leaf.src, nh1, ng1, ngg1], [ne21, ns21, nn21, .int .i64 x.lf.src, nh21, ng21], [_], [_], [_], [_]]) (out := [.int .i64 x.kind, ni1, ne1, ns1, nn1, .int .i64 x.pk.leaf.src, nh1, ng1, ngg1, ne21, ns21, nn21, .int .i64 x.lf.src, nh21, ng21, .int .i64 x.ix, v1, v2, v3]) lH bz rfl rfl ⟨rfl, rfl, rfl, rfl, Rd.cells (Own.rd o1), Rd.cells (Own.rd o2), Rd.cells (Own.rd o3), trivial⟩ rfl rfl) (lA ?_)
 refine an (bK bz rfl rfl rfl (by simp only [List.forall_mem_cons]; refine ⟨(by first | rfl | exact Rd.one (by first | assumption | exact Own.rd ‹_› | exact Rd.oC ‹_› hB | exact Own.rd (Own.oC ‹_› hB))), (by first | rfl | exact Rd.one (by first | assumption | exact Own.rd ‹_› | exact Rd.oC ‹_› hB | exact Own.rd (Own.oC ‹_› hB))), (by first | rfl | exact Rd.one (by first | assumption | exact Own.rd ‹_› | exact Rd.oC ‹_› hB | exact Own.rd (Own.oC ‹_› hB))), (by first | rfl | exact Rd.one (by first | assumption | exact Own.rd ‹_› | exact Rd.oC ‹_› hB | exact Own.rd (Own.oC ‹_› hB))), (by first | rfl | exact Rd.one (by first | assumption | exact Own.rd ‹_› | exact Rd.oC ‹_› hB | exact Own.rd (Own.oC ‹_› hB))), (by first | rfl | exact Rd.one (by first | assumption | exact Own.rd ‹_› | exact Rd.oC ‹_› hB | exact Own.rd (Own.oC ‹_› hB))), (by first | rfl | exact Rd.one (by first | assumption | exact Own.rd ‹_› | exact Rd.oC ‹_› hB | exact Own.rd (Own.oC ‹_› hB))), (by first | rfl | exact Rd.one (by first | assumption | exact Own.rd ‹_› | exact Rd.oC ‹_› hB | exact Own.rd (Own.oC ‹_› hB))), (by first | rfl | exact Rd.one (by first | assumption | exact Own.rd ‹_› | exact Rd.oC ‹_› hB | exact Own.rd (Own.oC ‹_› hB))), (by first | rfl | exact Rd.one (by first | assumption | exact Own.rd ‹_› | exact Rd.oC ‹_› hB | exact Own.rd (Own.oC ‹_› hB))), (by first | rfl | exact Rd.one (by first | assumption | exact Own.rd ‹_› | exact Rd.oC ‹_› hB | exact Own.rd (Own.oC ‹_› hB))), (by first | rfl | exact Rd.one (by first | assumption | exact Own.rd ‹_› | exact Rd.oC ‹_› hB | exact Own.rd (Own.oC ‹_› hB))), (by first | rfl | exact Rd.one (by first | assumption | exact Own.rd ‹_› | exact Rd.oC ‹_› hB | exact Own.rd (Own.oC ‹_› hB))), (by first | rfl | exact Rd.one (by first | assumption | exact Own.rd ‹_› | exact Rd.oC ‹_› hB | exact Own.rd (Own.oC ‹_› hB))), (by first | rfl | exact Rd.one (by first | assumption | exact Own.rd ‹_› | exact Rd.oC ‹_› hB | exact Own.rd (Own.oC ‹_› hB))), (by first | rfl | exact Rd.one (by first | assumption | exact Own.rd ‹_› | exact Rd.oC ‹_› hB | exact Own.rd (Own.oC ‹_› hB))), (by first | rfl | exact Rd.one (by first | assumption | exact Own.rd ‹_› | exact Rd.oC ‹_› hB | exact Own.rd (Own.oC ‹_› hB))), (by first | rfl | exact Rd.one (by first | assumption | exact Own.rd ‹_› | exact Rd.oC ‹_› hB | exact Own.rd (Own.oC ‹_› hB))), (by first | rfl | exact Rd.one (by first | assumption | exact Own.rd ‹_› | exact Rd.oC ‹_› hB | exact Own.rd (Own.oC ‹_› hB))), fun v hv => by cases hv⟩) hb2 rfl) ?_
 rintro _ w9 ⟨hb3, k9, z3⟩
 replace oi1 := oi1.keep k9 (fun x hx hm => sb_b2_oi1 x hx (List.mem_singleton.1 hm))
 replace oe1 := oe1.keep k9 (fun x hx hm => sb_b2_oe1 x hx (List.mem_singleton.1 hm))
 replace os1 := os1.keep k9 (fun x hx hm => sb_b2_os1 x hx (List.mem_singleton.1 hm))
 replace on1 := on1.keep k9 (fun x hx hm => sb_b2_on1 x hx (List.mem_singleton.1 hm))
 replace oh1 := oh1.keep k9 (fun x hx hm => sb_b2_oh1 x hx (List.mem_singleton.1 hm))
 replace og1 := og1.keep k9 (fun x hx hm => sb_b2_og1 x hx (List.mem_singleton.1 hm))
 replace ogg1 := ogg1.keep k9 (fun x hx hm => sb_b2_ogg1 x hx (List.mem_singleton.1 hm))
 replace oe21 := oe21.keep k9 (fun x hx hm => sb_b2_oe21 x hx (List.mem_singleton.1 hm))
 replace os21 := os21.keep k9 (fun x hx hm => sb_b2_os21 x hx (List.mem_singleton.1 hm))
 replace on21 := on21.keep k9 (fun x hx hm => sb_b2_on21 x hx (List.mem_singleton.1 hm))
 replace oh21 := oh21.keep k9 (fun x hx hm => sb_b2_oh21 x hx (List.mem_singleton.1 hm))
 replace og21 := og21.keep k9 (fun x hx hm => sb_b2_og21 x hx (List.mem_singleton.1 hm))
 replace o1 := o1.keep k9 (fun x hx hm => sb_b2_o1 x hx (List.mem_singleton.1 hm))
 replace o2 := o2.keep k9 (fun x hx hm => sb_b2_o2 x hx (List.mem_singleton.1 hm))
 replace o3 := o3.keep k9 (fun x hx hm => sb_b2_o3 x hx (List.mem_singleton.1 hm))
 replace hB := hB.new k9 (nw ge_b2)
 clear z3
 replace hb3 : Bk w9 b2 _ [.int .i64 x.kind, ni1, ne1, ns1, nn1, .int .i64 x.pk.leaf.src, nh1, ng1, ngg1, ne21, ns21, nn21, .int .i64 x.lf.src, nh21, ng21, .int .i64 x.ix, v1, v2, v3] := hb3
 refine a6 (af [(2, _)] ⟨rfl, trivial⟩ (dw hfin Try.results6 rfl (ar dY bz hb3 rfl)  ?_))
 exact ⟨_, _, _, _, _, _, _, _, _, _, _, _, _, _, _, rfl, oi1.lo gl_oi1, oe1.lo gl_oe1, os1.lo gl_os1, on1.lo gl_on1, oh1.lo gl_oh1, og1.lo gl_og1, ogg1.lo gl_ogg1, oe21.lo gl_oe21, os21.lo gl_os21, on21.lo gl_on21, oh21.lo gl_oh21, og21.lo gl_og21, o1.lo gl_o1, o2.lo gl_o2, o3.lo gl_o3, hB⟩
theorem cx (x : Pr) : (decide (x.kind ≠ 1) && !pkBare x.pk || decide (x.kind ≠ 2) && !lfBare x.lf || decide (x.kind ≠ 3) && decide (x.ix ≠ 0) || decide (x.kind ≠ 4) && decide ((0 : Int) < ↑x.psk.length + ↑x.nonce.length) || decide (x.kind ≠ 6) && decide ((0 : Int) < ↑x.enc.length)) = !prBare x := by
 unfold prBare
 cases pkBare x.pk <;> cases lfBare x.lf <;> (rw [Bool.eq_iff_iff]; simp only [Bool.not_eq_true', Bool.or_eq_true, Bool.and_eq_true, decide_eq_true_eq, Bool.and_eq_false_iff, Bool.or_eq_false_iff, decide_eq_false_iff_not, Bool.not_true, Bool.not_false, Bool.and_true, Bool.and_false, Bool.or_true, Bool.or_false, Bool.true_or, Bool.false_or, Bool.true_and, Bool.false_and, Bool.false_eq_true, false_or, or_false, true_and, and_true]; omega)
theorem cU (i e s n h g gg e2 s2 n2 h2 g2 y1 y2 y3 : Value) (x : Pr) (w : World) (hi : RdB w i x.pk.init) (he : RdB w e x.pk.leaf.enc) (hs : RdB w s x.pk.leaf.sig) (hn : RdB w n x.pk.leaf.name) (hh : RdB w h x.pk.leaf.hash) (hg : RdB w g x.pk.leaf.sg) (hgg : RdB w gg x.pk.sg) (he2 : RdB w e2 x.lf.enc) (hs2 : RdB w s2 x.lf.sig) (hn2 : RdB w n2 x.lf.name) (hh2 : RdB w h2 x.lf.hash) (hg2 : RdB w g2 x.lf.sg) (hy1 : RdB w y1 x.psk) (hy2 : RdB w y2 x.nonce) (hy3 : RdB w y3 x.enc) (t0 : x.pk.init.length ≤ 140737488351232) (t1 : x.pk.leaf.enc.length ≤ 140737488351232) (t2 : x.pk.leaf.sig.length ≤ 140737488351232) (t3 : x.pk.leaf.name.length ≤ 140737488351232) (t4 : x.pk.leaf.hash.length ≤ 140737488351232) (t5 : x.pk.leaf.sg.length ≤ 140737488351232) (t6 : x.pk.sg.length ≤ 140737488351232) (t7 : x.lf.enc.length ≤ 140737488351232) (t8 : x.lf.sig.length ≤ 140737488351232) (t9 : x.lf.name.length ≤ 140737488351232) (t10 : x.lf.hash.length ≤ 140737488351232) (t11 : x.lf.sg.length ≤ 140737488351232) (t12 : x.psk.length ≤ 140737488351232) (t13 : x.nonce.length ≤ 140737488351232) (t14 : x.enc.length ≤ 140737488351232) : Rets Try.prog 31 [.agg [.int .i64 x.kind, i, e, s, n, .int .i64 x.pk.leaf.src, h, g, gg, e2, s2, n2, .int .i64 x.lf.src, h2, g2, .int .i64 x.ix, y1, y2, y3].toArray] w (fun r w' => r = .bool (prOk x) ∧ Keep [] w w') := by
 have hB : Keep [] w w := Keep.refl _ _
 refine ai Try.func31 rfl (by decide) Try.ntmps31 rfl (fun fin _ hfin => a5 (aZ (ah (bc (cs := [.int .i64 x.kind, i, e, s, n, .int .i64 x.pk.leaf.src, h, g, gg, e2, s2, n2, .int .i64 x.lf.src, h2, g2, .int .i64 x.ix, y1, y2, y3]) rfl rfl) rfl ?_)))
 rintro _ w1 ⟨b1, rfl, eb1, hb1, k1, z1⟩
 have ge_b1 : w.heap.size ≤ b1 := by have := hB.size; omega
 replace hB := hB.trans k1
 clear eb1 z1
 refine oga rfl rfl (a6 (a5 (a5 (aZ (a7 (ak aB rfl bh (by decide) rfl) rfl (a7 (ae cY rfl hb1 rfl) rfl (a7 (bn rfl rfl) rfl (ogm rfl rfl (aq 6 true rfl (fun c1 hgc1 => a9 [(1, _)] (ad rfl rfl rfl hgc1) ⟨bB rfl, trivial⟩ (fun hw1 => ak aB rfl cp (by decide) rfl) rfl (a9 [(7, _)] (ad rfl rfl rfl hgc1) ⟨ag rfl, trivial⟩ (fun hw2 => au (cs' := [_, _, _, _, _, _, _, _]) ii cp rfl hb1 rfl rfl) rfl (cC [(8, _)] (ad rfl rfl rfl hgc1) ⟨ag rfl, trivial⟩ (fun hw3 => ab (vs := [_]) rfl (nS _ _ _ _ _ _ _ x.pk _ (by first | assumption | exact Own.rd ‹_› | exact Rd.oC ‹_› hB | exact Own.rd (Own.oC ‹_› hB)) (by first | assumption | exact Own.rd ‹_› | exact Rd.oC ‹_› hB | exact Own.rd (Own.oC ‹_› hB)) (by first | assumption | exact Own.rd ‹_› | exact Rd.oC ‹_› hB | exact Own.rd (Own.oC ‹_› hB)) (by first | assumption | exact Own.rd ‹_› | exact Rd.oC ‹_› hB | exact Own.rd (Own.oC ‹_› hB)) (by first | assumption | exact Own.rd ‹_› | exact Rd.oC ‹_› hB | exact Own.rd (Own.oC ‹_› hB)) (by first | assumption | exact Own.rd ‹_› | exact Rd.oC ‹_› hB | exact Own.rd (Own.oC ‹_› hB)) (by first | assumption | exact Own.rd ‹_› | exact Rd.oC ‹_› hB | exact Own.rd (Own.oC ‹_› hB)) t0 t1 t2 t3 t4 t5 t6)) rfl ?_))))))))))))
 rintro w3 k3
 obtain ⟨hB, hb1⟩ := bX k3 hB hb1
 refine a9 [(9, _)] (ad rfl rfl rfl hgc1) ⟨ag rfl, trivial⟩ (fun hw4 => cd rfl) rfl (a7 (bM rfl rfl hgc1) rfl (ogm rfl rfl (aq 12 false rfl (fun c2 hgc2 => a9 [(1, _)] (ad rfl rfl rfl hgc2) ⟨bB rfl, trivial⟩ (fun hw5 => ak aB rfl bh (by decide) rfl) rfl (a9 [(13, _)] (ad rfl rfl rfl hgc2) ⟨ag rfl, trivial⟩ (fun hw6 => ae cY rfl hb1 rfl) rfl (a9 [(14, _)] (ad rfl rfl rfl hgc2) ⟨ag rfl, trivial⟩ (fun hw7 => bn rfl rfl) rfl (a9 [(15, _)] (ad rfl rfl rfl hgc2) ⟨ag rfl, trivial⟩ (fun hw8 => bC rfl) rfl (ci 16 true rfl (fun c3 hgc3 => a9 [(1, _)] (cE rfl rfl rfl hgc3) ⟨bB rfl, trivial⟩ (fun hw9 => ak aB rfl bm (by decide) rfl) rfl ?_)))))))))
 refine a9 [(17, _)] (cE rfl rfl rfl hgc3) ⟨ag rfl, trivial⟩ (fun hw10 => au (cs' := [_, _, _, _, _, _]) fB bm rfl hb1 rfl rfl) rfl (cC [(18, _)] (cE rfl rfl rfl hgc3) ⟨ag rfl, trivial⟩ (fun hw11 => ab (vs := [_]) rfl (iM _ _ _ _ _ x.lf _ (by first | assumption | exact Own.rd ‹_› | exact Rd.oC ‹_› hB | exact Own.rd (Own.oC ‹_› hB)) (by first | assumption | exact Own.rd ‹_› | exact Rd.oC ‹_› hB | exact Own.rd (Own.oC ‹_› hB)) (by first | assumption | exact Own.rd ‹_› | exact Rd.oC ‹_› hB | exact Own.rd (Own.oC ‹_› hB)) (by first | assumption | exact Own.rd ‹_› | exact Rd.oC ‹_› hB | exact Own.rd (Own.oC ‹_› hB)) (by first | assumption | exact Own.rd ‹_› | exact Rd.oC ‹_› hB | exact Own.rd (Own.oC ‹_› hB)) t7 t8 t9 t10 t11)) rfl ?_)
 rintro w5 k5
 obtain ⟨hB, hb1⟩ := bX k5 hB hb1
 refine a9 [(19, _)] (cE rfl rfl rfl hgc3) ⟨ag rfl, trivial⟩ (fun hw12 => cd rfl) rfl (cu (ad rfl rfl rfl hgc2) (ag rfl) rfl hgc3 rfl (a7 (bP rfl rfl hgc2) rfl (ogm rfl rfl (aq 23 false rfl (fun c4 hgc4 => a9 [(1, _)] (ad rfl rfl rfl hgc4) ⟨bB rfl, trivial⟩ (fun hw13 => ak aB rfl bh (by decide) rfl) rfl (a9 [(24, _)] (ad rfl rfl rfl hgc4) ⟨ag rfl, trivial⟩ (fun hw14 => ae cY rfl hb1 rfl) rfl (a9 [(25, _)] (ad rfl rfl rfl hgc4) ⟨ag rfl, trivial⟩ (fun hw15 => bn rfl rfl) rfl (a9 [(26, _)] (ad rfl rfl rfl hgc4) ⟨ag rfl, trivial⟩ (fun hw16 => bC rfl) rfl (ci 27 true rfl (fun c5 hgc5 => ?_))))))))))
 refine a9 [(1, _)] (cE rfl rfl rfl hgc5) ⟨bB rfl, trivial⟩ (fun hw17 => ak aB rfl bh (by decide) rfl) rfl (a9 [(28, _)] (cE rfl rfl rfl hgc5) ⟨ag rfl, trivial⟩ (fun hw18 => ae cY rfl hb1 rfl) rfl (a9 [(29, _)] (cE rfl rfl rfl hgc5) ⟨ag rfl, trivial⟩ (fun hw19 => bn rfl rfl) rfl (cu (ad rfl rfl rfl hgc4) (ag rfl) rfl hgc5 rfl (a7 (bP rfl rfl hgc4) rfl (ogm rfl rfl (aq 33 false rfl (fun c6 hgc6 => a9 [(1, _)] (ad rfl rfl rfl hgc6) ⟨bB rfl, trivial⟩ (fun hw20 => ak aB rfl bh (by decide) rfl) rfl (a9 [(34, _)] (ad rfl rfl rfl hgc6) ⟨ag rfl, trivial⟩ (fun hw21 => ae cY rfl hb1 rfl) rfl (a9 [(35, _)] (ad rfl rfl rfl hgc6) ⟨ag rfl, trivial⟩ (fun hw22 => bn rfl rfl) rfl ?_)))))))))
 refine a9 [(36, _)] (ad rfl rfl rfl hgc6) ⟨ag rfl, trivial⟩ (fun hw23 => bC rfl) rfl (ci 37 true rfl (fun c7 hgc7 => a9 [(1, _)] (cE rfl rfl rfl hgc7) ⟨bB rfl, trivial⟩ (fun hw24 => ak aB rfl am (by decide) rfl) rfl (a9 [(38, _)] (cE rfl rfl rfl hgc7) ⟨ag rfl, trivial⟩ (fun hw25 => ae aw rfl hb1 rfl) rfl (a9 [(39, _)] (cE rfl rfl rfl hgc7) ⟨ag rfl, trivial⟩ (fun hw26 => ay aA rfl (by first | assumption | exact Own.rd ‹_› | exact Rd.oC ‹_› hB | exact Own.rd (Own.oC ‹_› hB))) rfl (a9 [(1, _)] (cE rfl rfl rfl hgc7) ⟨bB rfl, trivial⟩ (fun hw27 => ak aB rfl am (by decide) rfl) rfl (a9 [(41, _)] (cE rfl rfl rfl hgc7) ⟨ag rfl, trivial⟩ (fun hw28 => ae aw rfl hb1 rfl) rfl (a9 [(42, _)] (cE rfl rfl rfl hgc7) ⟨ag rfl, trivial⟩ (fun hw29 => ay aA rfl (by first | assumption | exact Own.rd ‹_› | exact Rd.oC ‹_› hB | exact Own.rd (Own.oC ‹_› hB))) rfl (a9 [(40, _), (43, _)] (cE rfl rfl rfl hgc7) ⟨ag rfl, ag rfl, trivial⟩ (fun hw30 => bN rfl rfl (by omega)) rfl ?_))))))))
 refine a9 [(44, _)] (cE rfl rfl rfl hgc7) ⟨ag rfl, trivial⟩ (fun hw31 => dK rfl rfl) rfl (cu (ad rfl rfl rfl hgc6) (ag rfl) rfl hgc7 rfl (a7 (bP rfl rfl hgc6) rfl (ogm rfl rfl (aq 48 false rfl (fun c8 hgc8 => a9 [(1, _)] (ad rfl rfl rfl hgc8) ⟨bB rfl, trivial⟩ (fun hw32 => ak aB rfl bh (by decide) rfl) rfl (a9 [(49, _)] (ad rfl rfl rfl hgc8) ⟨ag rfl, trivial⟩ (fun hw33 => ae cY rfl hb1 rfl) rfl (a9 [(50, _)] (ad rfl rfl rfl hgc8) ⟨ag rfl, trivial⟩ (fun hw34 => bn rfl rfl) rfl (a9 [(51, _)] (ad rfl rfl rfl hgc8) ⟨ag rfl, trivial⟩ (fun hw35 => bC rfl) rfl (ci 52 true rfl (fun c9 hgc9 => ?_))))))))))
 refine a9 [(1, _)] (cE rfl rfl rfl hgc9) ⟨bB rfl, trivial⟩ (fun hw36 => ak aB rfl am (by decide) rfl) rfl (a9 [(53, _)] (cE rfl rfl rfl hgc9) ⟨ag rfl, trivial⟩ (fun hw37 => ae aw rfl hb1 rfl) rfl (a9 [(54, _)] (cE rfl rfl rfl hgc9) ⟨ag rfl, trivial⟩ (fun hw38 => ay aA rfl (by first | assumption | exact Own.rd ‹_› | exact Rd.oC ‹_› hB | exact Own.rd (Own.oC ‹_› hB))) rfl (a9 [(55, _)] (cE rfl rfl rfl hgc9) ⟨ag rfl, trivial⟩ (fun hw39 => dK rfl rfl) rfl (cu (ad rfl rfl rfl hgc8) (ag rfl) rfl hgc9 rfl (a7 (bP rfl rfl hgc8) rfl (a6 (af [(1, _), (58, _)] ⟨rfl, rfl, trivial⟩ (bD rfl (fun hc1 => ?_) (fun hc1 => ?_)))))))))
 ·
  have hd1 := hc1
  try (simp only [Bool.and_eq_true, Bool.or_eq_true, decide_eq_true_eq, Bool.and_eq_false_iff, Bool.or_eq_false_iff, decide_eq_false_iff_not, Bool.not_eq_true', Bool.not_eq_false', Bool.not_eq_true, Bool.not_eq_false, ne_eq, Decidable.not_not, decide_true, decide_false, Bool.true_and, Bool.false_and, Bool.or_false, Bool.false_or, not_true_eq_false, false_or, or_false, true_and, and_true, not_false_eq_true, reduceCtorEq] at hd1)
  refine a5 (aZ (oga rfl rfl (a6 (al hfin Try.results31 rfl ?_))))
  have hbd := cx x
  rw [hc1] at hbd
  refine ⟨congrArg Value.bool ?_, hB⟩
  unfold prOk
  cases hpb : prBare x <;> rw [hpb] at hbd <;> first | (cases hbd; done) | rfl | skip
  all_goals (rw [Bool.true_and]; unfold prKind; (repeat' split) <;> first | (exfalso; omega) | rfl | (rw [Bool.eq_iff_iff]; simp only [Bool.and_eq_true, decide_eq_true_eq] <;> omega))
 ·
  have hd2 := hc1
  try (simp only [Bool.and_eq_true, Bool.or_eq_true, decide_eq_true_eq, Bool.and_eq_false_iff, Bool.or_eq_false_iff, decide_eq_false_iff_not, Bool.not_eq_true', Bool.not_eq_false', Bool.not_eq_true, Bool.not_eq_false, ne_eq, Decidable.not_not, decide_true, decide_false, Bool.true_and, Bool.false_and, Bool.or_false, Bool.false_or, not_true_eq_false, false_or, or_false, true_and, and_true, not_false_eq_true, reduceCtorEq] at hd2)
  refine aj (a5 (a5 (aZ (a7 (ak aB rfl bh (by decide) rfl) rfl (a7 (ae cY rfl hb1 rfl) rfl (a6 (bA (a5 (aZ (a7 (bE rfl rfl) rfl (oga rfl rfl (a6 (bF rfl (fun hc2 => ?_) (fun hc2 => ?_))))))))))))))
  ·
   refine a5 (aZ (a7 (ak aB rfl cp (by decide) rfl) rfl (a7 (au (cs' := [_, _, _, _, _, _, _, _]) ii cp rfl hb1 rfl rfl) rfl (ah (ab (vs := [_]) rfl (la _ _ _ _ _ _ _ x.pk _ (by first | assumption | exact Own.rd ‹_› | exact Rd.oC ‹_› hB | exact Own.rd (Own.oC ‹_› hB)) (by first | assumption | exact Own.rd ‹_› | exact Rd.oC ‹_› hB | exact Own.rd (Own.oC ‹_› hB)) (by first | assumption | exact Own.rd ‹_› | exact Rd.oC ‹_› hB | exact Own.rd (Own.oC ‹_› hB)) (by first | assumption | exact Own.rd ‹_› | exact Rd.oC ‹_› hB | exact Own.rd (Own.oC ‹_› hB)) (by first | assumption | exact Own.rd ‹_› | exact Rd.oC ‹_› hB | exact Own.rd (Own.oC ‹_› hB)) (by first | assumption | exact Own.rd ‹_› | exact Rd.oC ‹_› hB | exact Own.rd (Own.oC ‹_› hB)) (by first | assumption | exact Own.rd ‹_› | exact Rd.oC ‹_› hB | exact Own.rd (Own.oC ‹_› hB)))) rfl ?_))))
   rintro _ w6 ⟨rfl, k6⟩
   obtain ⟨hB, hb1⟩ := bX k6 hB hb1
   refine oga rfl rfl (a6 (al hfin Try.results31 rfl ?_))
   have hbd := cx x
   rw [hc1] at hbd
   refine ⟨congrArg Value.bool ?_, hB⟩
   unfold prOk
   cases hpb : prBare x <;> rw [hpb] at hbd <;> first | (cases hbd; done) | rfl | skip
   all_goals (rw [Bool.true_and]; unfold prKind; (repeat' split) <;> first | (exfalso; omega) | rfl | (rw [Bool.eq_iff_iff]; simp only [Bool.and_eq_true, decide_eq_true_eq] <;> omega))
  ·
   refine a5 (aZ (a7 (bE rfl rfl) rfl (oga rfl rfl (a6 (bF rfl (fun hc3 => ?_) (fun hc3 => ?_))))))
   ·
    refine a5 (aZ (a7 (ak aB rfl bm (by decide) rfl) rfl (a7 (au (cs' := [_, _, _, _, _, _]) fB bm rfl hb1 rfl rfl) rfl (ah (ab (vs := [_]) rfl (jU _ _ _ _ _ x.lf _ (by first | assumption | exact Own.rd ‹_› | exact Rd.oC ‹_› hB | exact Own.rd (Own.oC ‹_› hB)) (by first | assumption | exact Own.rd ‹_› | exact Rd.oC ‹_› hB | exact Own.rd (Own.oC ‹_› hB)) (by first | assumption | exact Own.rd ‹_› | exact Rd.oC ‹_› hB | exact Own.rd (Own.oC ‹_› hB)) (by first | assumption | exact Own.rd ‹_› | exact Rd.oC ‹_› hB | exact Own.rd (Own.oC ‹_› hB)) (by first | assumption | exact Own.rd ‹_› | exact Rd.oC ‹_› hB | exact Own.rd (Own.oC ‹_› hB)))) rfl ?_))))
    rintro _ w7 ⟨rfl, k7⟩
    obtain ⟨hB, hb1⟩ := bX k7 hB hb1
    refine ogm rfl rfl (aq 71 true rfl (fun c10 hgc10 => a9 [(1, _)] (ad rfl rfl rfl hgc10) ⟨bB rfl, trivial⟩ (fun hw40 => ak aB rfl bm (by decide) rfl) rfl (a9 [(72, _)] (ad rfl rfl rfl hgc10) ⟨ag rfl, trivial⟩ (fun hw41 => ak aC rfl bh (by decide) rfl) rfl (a9 [(73, _)] (ad rfl rfl rfl hgc10) ⟨ag rfl, trivial⟩ (fun hw42 => ae cY rfl hb1 rfl) rfl (a9 [(74, _)] (ad rfl rfl rfl hgc10) ⟨ag rfl, trivial⟩ (fun hw43 => bE rfl rfl) rfl (a7 (bM rfl rfl hgc10) rfl (oga rfl rfl (a6 (af [(2, _)] ⟨rfl, trivial⟩ (al hfin Try.results31 rfl ?_))))))))))
    have hbd := cx x
    rw [hc1] at hbd
    refine ⟨congrArg Value.bool ?_, hB⟩
    unfold prOk
    cases hpb : prBare x <;> rw [hpb] at hbd <;> first | (cases hbd; done) | rfl | skip
    all_goals (rw [Bool.true_and]; unfold prKind; (repeat' split) <;> first | (exfalso; omega) | rfl | (rw [Bool.eq_iff_iff]; simp only [Bool.and_eq_true, decide_eq_true_eq] <;> omega))
   ·
    refine a5 (aZ (a7 (bE rfl rfl) rfl (oga rfl rfl (a6 (bF rfl (fun hc4 => ?_) (fun hc4 => ?_))))))
    ·
     refine a5 (aZ (a7 (ak aB rfl bh (by decide) rfl) rfl (a7 (ae cY rfl hb1 rfl) rfl (a7 (gW rfl rfl) rfl (ogm rfl rfl (aq 82 true rfl (fun c11 hgc11 => a9 [(1, _)] (ad rfl rfl rfl hgc11) ⟨bB rfl, trivial⟩ (fun hw44 => ak aB rfl bh (by decide) rfl) rfl (a9 [(83, _)] (ad rfl rfl rfl hgc11) ⟨ag rfl, trivial⟩ (fun hw45 => ae cY rfl hb1 rfl) rfl (a9 [(84, _)] (ad rfl rfl rfl hgc11) ⟨ag rfl, trivial⟩ (fun hw46 => cN rfl rfl) rfl (a7 (bM rfl rfl hgc11) rfl (oga rfl rfl (a6 (af [(2, _)] ⟨rfl, trivial⟩ ?_)))))))))))))
     refine al hfin Try.results31 rfl ?_
     have hbd := cx x
     rw [hc1] at hbd
     refine ⟨congrArg Value.bool ?_, hB⟩
     unfold prOk
     cases hpb : prBare x <;> rw [hpb] at hbd <;> first | (cases hbd; done) | rfl | skip
     all_goals (rw [Bool.true_and]; unfold prKind; (repeat' split) <;> first | (exfalso; omega) | rfl | (rw [Bool.eq_iff_iff]; simp only [Bool.and_eq_true, decide_eq_true_eq] <;> omega))
    ·
     refine a5 (aZ (a7 (bE rfl rfl) rfl (oga rfl rfl (a6 (bF rfl (fun hc5 => ?_) (fun hc5 => ?_))))))
     ·
      refine a5 (aZ (a7 (ak aB rfl am (by decide) rfl) rfl (a7 (ae aw rfl hb1 rfl) rfl (a7 (ay aA rfl (by first | assumption | exact Own.rd ‹_› | exact Rd.oC ‹_› hB | exact Own.rd (Own.oC ‹_› hB))) rfl (a7 (gW rfl rfl) rfl (ogm rfl rfl (aq 93 true rfl (fun c12 hgc12 => a9 [(1, _)] (ad rfl rfl rfl hgc12) ⟨bB rfl, trivial⟩ (fun hw47 => ak aB rfl am (by decide) rfl) rfl (a9 [(94, _)] (ad rfl rfl rfl hgc12) ⟨ag rfl, trivial⟩ (fun hw48 => ae aw rfl hb1 rfl) rfl (a9 [(95, _)] (ad rfl rfl rfl hgc12) ⟨ag rfl, trivial⟩ (fun hw49 => ay aA rfl (by first | assumption | exact Own.rd ‹_› | exact Rd.oC ‹_› hB | exact Own.rd (Own.oC ‹_› hB))) rfl (a9 [(96, _)] (ad rfl rfl rfl hgc12) ⟨ag rfl, trivial⟩ (fun hw50 => g_le rfl rfl) rfl ?_)))))))))))
      refine a7 (bM rfl rfl hgc12) rfl (ogm rfl rfl (aq 99 true rfl (fun c13 hgc13 => a9 [(1, _)] (ad rfl rfl rfl hgc13) ⟨bB rfl, trivial⟩ (fun hw51 => ak aB rfl am (by decide) rfl) rfl (a9 [(100, _)] (ad rfl rfl rfl hgc13) ⟨ag rfl, trivial⟩ (fun hw52 => ae aw rfl hb1 rfl) rfl (a9 [(101, _)] (ad rfl rfl rfl hgc13) ⟨ag rfl, trivial⟩ (fun hw53 => ay aA rfl (by first | assumption | exact Own.rd ‹_› | exact Rd.oC ‹_› hB | exact Own.rd (Own.oC ‹_› hB))) rfl (a9 [(102, _)] (ad rfl rfl rfl hgc13) ⟨ag rfl, trivial⟩ (fun hw54 => bE rfl rfl) rfl (a7 (bM rfl rfl hgc13) rfl (oga rfl rfl (a6 (af [(2, _)] ⟨rfl, trivial⟩ (al hfin Try.results31 rfl ?_)))))))))))
      have hbd := cx x
      rw [hc1] at hbd
      refine ⟨congrArg Value.bool ?_, hB⟩
      unfold prOk
      cases hpb : prBare x <;> rw [hpb] at hbd <;> first | (cases hbd; done) | rfl | skip
      all_goals (rw [Bool.true_and]; unfold prKind; (repeat' split) <;> first | (exfalso; omega) | rfl | (rw [Bool.eq_iff_iff]; simp only [Bool.and_eq_true, decide_eq_true_eq] <;> omega))
     ·
      refine a5 (aZ (a7 (bE rfl rfl) rfl (oga rfl rfl (a6 (af [(1, _), (105, _)] ⟨rfl, rfl, trivial⟩ (bF rfl (fun hc6 => ?_) (fun hc6 => ?_)))))))
      ·
       refine a5 (aZ (a7 (ak aB rfl am (by decide) rfl) rfl (a7 (ae aw rfl hb1 rfl) rfl (a7 (ay aA rfl (by first | assumption | exact Own.rd ‹_› | exact Rd.oC ‹_› hB | exact Own.rd (Own.oC ‹_› hB))) rfl (a7 (bE rfl rfl) rfl (oga rfl rfl (a6 (al hfin Try.results31 rfl ?_))))))))
       have hbd := cx x
       rw [hc1] at hbd
       refine ⟨congrArg Value.bool ?_, hB⟩
       unfold prOk
       cases hpb : prBare x <;> rw [hpb] at hbd <;> first | (cases hbd; done) | rfl | skip
       all_goals (rw [Bool.true_and]; unfold prKind; (repeat' split) <;> first | (exfalso; omega) | rfl | (rw [Bool.eq_iff_iff]; simp only [Bool.and_eq_true, decide_eq_true_eq] <;> omega))
      ·
       refine aj (cG (a5 (aZ (oga rfl rfl (a6 (al hfin Try.results31 rfl ?_))))))
       have hbd := cx x
       rw [hc1] at hbd
       refine ⟨congrArg Value.bool ?_, hB⟩
       unfold prOk
       cases hpb : prBare x <;> rw [hpb] at hbd <;> first | (cases hbd; done) | rfl | skip
       all_goals (rw [Bool.true_and]; unfold prKind; (repeat' split) <;> first | (exfalso; omega) | rfl | (rw [Bool.eq_iff_iff]; simp only [Bool.and_eq_true, decide_eq_true_eq] <;> omega))
theorem iS {a : List UInt8} (h : a.length ≤ 1000) : joinB [a] = vec a ∧ (joinB [a]).length ≤ 1004 := by
 have e : joinB [a] = vec a := by
   unfold joinB dv
   simp only [List.flatMap_cons, List.flatMap_nil, List.append_nil]; rw [if_pos (by omega)]
 refine ⟨e, ?_⟩
 have := av a.length
 rw [e]; unfold vec; rw [List.length_append]; omega
theorem n9 {a b : List UInt8} (h : a.length ≤ 1000) (h2 : b.length ≤ 1000) : joinB [a, b] = vec a ++ vec b ∧ (joinB [a, b]).length ≤ 2008 := by
 have e : joinB [a, b] = vec a ++ vec b := by
   unfold joinB dv
   simp only [List.flatMap_cons, List.flatMap_nil, List.append_nil]; rw [if_pos (by omega), if_pos (by omega)]
 refine ⟨e, ?_⟩
 have e1 := av a.length; have e2 := av b.length
 rw [e]; unfold vec; simp only [List.length_append]; omega
theorem ku (i e s n h g gg e2 s2 n2 h2 g2 y1 y2 y3 : Value) (x : Pr) (w : World) (hi : RdB w i x.pk.init) (he : RdB w e x.pk.leaf.enc) (hs : RdB w s x.pk.leaf.sig) (hn : RdB w n x.pk.leaf.name) (hh : RdB w h x.pk.leaf.hash) (hg : RdB w g x.pk.leaf.sg) (hgg : RdB w gg x.pk.sg) (he2 : RdB w e2 x.lf.enc) (hs2 : RdB w s2 x.lf.sig) (hn2 : RdB w n2 x.lf.name) (hh2 : RdB w h2 x.lf.hash) (hg2 : RdB w g2 x.lf.sg) (hy1 : RdB w y1 x.psk) (hy2 : RdB w y2 x.nonce) (hy3 : RdB w y3 x.enc) (t0 : x.pk.init.length ≤ 140737488351232) (t1 : x.pk.leaf.enc.length ≤ 140737488351232) (t2 : x.pk.leaf.sig.length ≤ 140737488351232) (t3 : x.pk.leaf.name.length ≤ 140737488351232) (t4 : x.pk.leaf.hash.length ≤ 140737488351232) (t5 : x.pk.leaf.sg.length ≤ 140737488351232) (t6 : x.pk.sg.length ≤ 140737488351232) (t7 : x.lf.enc.length ≤ 140737488351232) (t8 : x.lf.sig.length ≤ 140737488351232) (t9 : x.lf.name.length ≤ 140737488351232) (t10 : x.lf.hash.length ≤ 140737488351232) (t11 : x.lf.sg.length ≤ 140737488351232) (t12 : x.psk.length ≤ 140737488351232) (t13 : x.nonce.length ≤ 140737488351232) (t14 : x.enc.length ≤ 140737488351232) : Rets Try.prog 8 [.agg [.int .i64 x.kind, i, e, s, n, .int .i64 x.pk.leaf.src, h, g, gg, e2, s2, n2, .int .i64 x.lf.src, h2, g2, .int .i64 x.ix, y1, y2, y3].toArray] w (fun r w' => ∃ u, r = .tuple #[u, .int .i64 (bif prOk x then 0 else 1)] ∧ OwnB w' w.heap.size u (bif prOk x then prB x else []) ∧ Keep [] w w') := by
 have hB : Keep [] w w := Keep.refl _ _
 refine ai Try.func8 rfl (by decide) Try.ntmps8 rfl (fun fin _ hfin => a5 (aZ (ah (bc (cs := [.int .i64 x.kind, i, e, s, n, .int .i64 x.pk.leaf.src, h, g, gg, e2, s2, n2, .int .i64 x.lf.src, h2, g2, .int .i64 x.ix, y1, y2, y3]) rfl rfl) rfl ?_)))
 rintro _ w1 ⟨b1, rfl, eb1, hb1, k1, z1⟩
 have ge_b1 : w.heap.size ≤ b1 := by have := hB.size; omega
 replace hB := hB.trans k1
 clear eb1 z1
 refine oga rfl rfl (oga rfl rfl (a6 (a5 (a5 (aZ (a7 (au (cs' := [_, _, _, _, _, _, _, _, _, _, _, _, _, _, _, _, _, _, _]) dE bl rfl hb1 rfl rfl) rfl ?_))))))
 refine ah (ab (vs := [_]) rfl (cU _ _ _ _ _ _ _ _ _ _ _ _ _ _ _ x _ (by first | assumption | exact Own.rd ‹_› | exact Rd.oC ‹_› hB | exact Own.rd (Own.oC ‹_› hB)) (by first | assumption | exact Own.rd ‹_› | exact Rd.oC ‹_› hB | exact Own.rd (Own.oC ‹_› hB)) (by first | assumption | exact Own.rd ‹_› | exact Rd.oC ‹_› hB | exact Own.rd (Own.oC ‹_› hB)) (by first | assumption | exact Own.rd ‹_› | exact Rd.oC ‹_› hB | exact Own.rd (Own.oC ‹_› hB)) (by first | assumption | exact Own.rd ‹_› | exact Rd.oC ‹_› hB | exact Own.rd (Own.oC ‹_› hB)) (by first | assumption | exact Own.rd ‹_› | exact Rd.oC ‹_› hB | exact Own.rd (Own.oC ‹_› hB)) (by first | assumption | exact Own.rd ‹_› | exact Rd.oC ‹_› hB | exact Own.rd (Own.oC ‹_› hB)) (by first | assumption | exact Own.rd ‹_› | exact Rd.oC ‹_› hB | exact Own.rd (Own.oC ‹_› hB)) (by first | assumption | exact Own.rd ‹_› | exact Rd.oC ‹_› hB | exact Own.rd (Own.oC ‹_› hB)) (by first | assumption | exact Own.rd ‹_› | exact Rd.oC ‹_› hB | exact Own.rd (Own.oC ‹_› hB)) (by first | assumption | exact Own.rd ‹_› | exact Rd.oC ‹_› hB | exact Own.rd (Own.oC ‹_› hB)) (by first | assumption | exact Own.rd ‹_› | exact Rd.oC ‹_› hB | exact Own.rd (Own.oC ‹_› hB)) (by first | assumption | exact Own.rd ‹_› | exact Rd.oC ‹_› hB | exact Own.rd (Own.oC ‹_› hB)) (by first | assumption | exact Own.rd ‹_› | exact Rd.oC ‹_› hB | exact Own.rd (Own.oC ‹_› hB)) (by first | assumption | exact Own.rd ‹_› | exact Rd.oC ‹_› hB | exact Own.rd (Own.oC ‹_› hB)) t0 t1 t2 t3 t4 t5 t6 t7 t8 t9 t10 t11 t12 t13 t14)) rfl ?_
 rintro _ w2 ⟨rfl, k2⟩
 obtain ⟨hB, hb1⟩ := bX k2 hB hb1
 refine a7 (cd rfl) rfl (a6 (bD rfl (fun hc1 => ?_) (fun hc1 => ?_)))
 ·
  have hd1 := hc1
  try (simp only [Bool.and_eq_true, Bool.or_eq_true, decide_eq_true_eq, Bool.and_eq_false_iff, Bool.or_eq_false_iff, decide_eq_false_iff_not, Bool.not_eq_true', Bool.not_eq_false', Bool.not_eq_true, Bool.not_eq_false, ne_eq, Decidable.not_not, decide_true, decide_false, Bool.true_and, Bool.false_and, Bool.or_false, Bool.false_or, not_true_eq_false, false_or, or_false, true_and, and_true, not_false_eq_true, reduceCtorEq] at hd1)
  refine a5 (aZ (oga rfl rfl (oga rfl rfl (a6 (bO hfin Try.results8 rfl rfl ?_)))))
  have hok : prOk x = false := by simpa using hc1
  exact ⟨_, by rw [hok]; rfl, by rw [hok]; exact a8 _ _ _ _, hB⟩
 ·
  have hd2 := hc1
  try (simp only [Bool.and_eq_true, Bool.or_eq_true, decide_eq_true_eq, Bool.and_eq_false_iff, Bool.or_eq_false_iff, decide_eq_false_iff_not, Bool.not_eq_true', Bool.not_eq_false', Bool.not_eq_true, Bool.not_eq_false, ne_eq, Decidable.not_not, decide_true, decide_false, Bool.true_and, Bool.false_and, Bool.or_false, Bool.false_or, not_true_eq_false, false_or, or_false, true_and, and_true, not_false_eq_true, reduceCtorEq] at hd2)
  refine aj (a5 (aZ (a7 (ak aB rfl bh (by decide) rfl) rfl (a7 (ae cY rfl hb1 rfl) rfl (a7 (lW (by rw [aM]; rfl) aG rfl) rfl ?_)))))
  have hok : prOk x = true := by simpa using hc1
  have ltb1 := hb1.lt
  refine ah (de (m := 2) (xs := [.const (.int .u8 (0)), .tmp 10]) (vs := [_, _]) aA cT (by decide) rfl rfl rfl (by simp only [List.forall_mem_cons]; exact ⟨rfl, rfl, fun v hv => by cases hv⟩) (by decide)) rfl ?_
  rintro v1 w3 ⟨o1, nn1, lb1, k3, z2⟩
  have gl_o1 := hB.size
  obtain ⟨hB, hb1⟩ := bX k3 hB hb1
  replace o1 : OwnB w3 (b1 + 1) v1 [0, byteAt x.kind 0] := (show Own _ _ _ 1 _ 2 _ from iJ (o1.lo ltb1) (by rw [bZ, IntKind.wrap_u8]; simp))
  have m0 : ([0, byteAt x.kind 0] : List UInt8).length = 2 := rfl
  refine oga rfl rfl (a6 (af [(1, _), (4, _)] ⟨rfl, rfl, trivial⟩ (a5 (a5 (aZ (a7 (ak aB rfl bh (by decide) rfl) rfl (a7 (ae cY rfl hb1 rfl) rfl (a6 (bA (a5 (aZ (a7 (bE rfl rfl) rfl (oga rfl rfl (a6 (bF rfl (fun hc2 => ?_) (fun hc2 => ?_))))))))))))))))
  ·
   refine a5 (aZ ?_)
   have q1 := jZ (fj hok (by omega))
   obtain ⟨e1, m1⟩ := iS (a := pkB x.pk) (by omega)
   refine ogm rfl rfl (a7 (ak aB rfl cp (by decide) rfl) rfl (a7 (au (cs' := [_, _, _, _, _, _, _, _]) ii cp rfl hb1 rfl rfl) rfl (ah (ab (vs := [_]) rfl (nF _ _ _ _ _ _ _ x.pk _ (by first | assumption | exact Own.rd ‹_› | exact Rd.oC ‹_› hB | exact Own.rd (Own.oC ‹_› hB)) (by first | assumption | exact Own.rd ‹_› | exact Rd.oC ‹_› hB | exact Own.rd (Own.oC ‹_› hB)) (by first | assumption | exact Own.rd ‹_› | exact Rd.oC ‹_› hB | exact Own.rd (Own.oC ‹_› hB)) (by first | assumption | exact Own.rd ‹_› | exact Rd.oC ‹_› hB | exact Own.rd (Own.oC ‹_› hB)) (by first | assumption | exact Own.rd ‹_› | exact Rd.oC ‹_› hB | exact Own.rd (Own.oC ‹_› hB)) (by first | assumption | exact Own.rd ‹_› | exact Rd.oC ‹_› hB | exact Own.rd (Own.oC ‹_› hB)) (by first | assumption | exact Own.rd ‹_› | exact Rd.oC ‹_› hB | exact Own.rd (Own.oC ‹_› hB)) (fj hok (by omega)))) rfl ?_)))
   rintro v2 w4 ⟨o2, k4⟩
   have gl_o2 := hB.size
   replace hb1 := hb1.oC k4
   replace o1 := o1.oC k4
   replace hB := hB.trans k4
   refine ah (cf (m := 1) (ls := [pkB x.pk]) (xs := [.tmp 19]) (us := [_]) aJ am rfl rfl (bL (by first | exact Rd.nil _ _ | exact (by first | assumption | exact Own.rd ‹_› | exact Rd.oC ‹_› hB | exact Own.rd (Own.oC ‹_› hB))) (bb _)) rfl rfl) rfl ?_
   rintro v3 w5 ⟨sl1, k5⟩
   replace hb1 := hb1.oC k5
   replace o1 := o1.oC k5
   replace o2 := o2.oC k5
   replace hB := hB.trans k5
   refine ah (ab (vs := [_]) rfl (cH _ [pkB x.pk] _ _ ‹_› (by omega))) rfl ?_
   rintro v4 w6 ⟨o4, k6⟩
   have gl_o4 := hB.size
   replace hb1 := hb1.oC k6
   replace o1 := o1.oC k6
   replace o2 := o2.oC k6
   replace sl1 := sl1.oC k6
   replace hB := hB.trans k6
   have lt_o5 := hb1.lt
   refine ah (bW aA cT rfl o1 rfl (show RdB _ _ _ from o4.rd) (by first | omega | (simp only [List.length_append] at *; omega)) (by omega)) rfl ?_
   rintro v5 w7 ⟨o5, k7, lb2, _⟩
   replace hB := hB.new k7 (fun x hx => .inl (Nat.le_trans ge_b1 (Nat.le_of_lt (o1.blk x hx).1)))
   replace hb1 := hb1.keep k7 (fun hm => absurd (o1.blk _ hm).1 (Nat.lt_irrefl _))
   refine oga rfl rfl (oga rfl rfl (a6 (af [(2, _), (3, _)] ⟨rfl, rfl, trivial⟩ (bO hfin Try.results8 rfl rfl ?_))))
   have hh := o5
   exact ⟨_, by rw [hok]; rfl, by rw [hok]; exact (show OwnB _ _ _ (prB x) from by have e : [0, byteAt x.kind 0] ++ joinB [pkB x.pk] = prB x := (by unfold prB prX; rw [e1, if_pos (by omega)]); unfold OwnB; rw [← e]; simp only [List.length_append] at hh ⊢; exact hh).lo (by omega), hB⟩
  ·
   refine a5 (aZ (a7 (bE rfl rfl) rfl (oga rfl rfl (a6 (bF rfl (fun hc3 => ?_) (fun hc3 => ?_))))))
   ·
    refine a5 (aZ ?_)
    have q1 := df (fi hok (by omega)).1
    obtain ⟨e1, m1⟩ := iS (a := leafB x.lf) (by omega)
    refine ogm rfl rfl (a7 (ak aB rfl bm (by decide) rfl) rfl (a7 (au (cs' := [_, _, _, _, _, _]) fB bm rfl hb1 rfl rfl) rfl (ah (ab (vs := [_]) rfl (iH _ _ _ _ _ x.lf _ (by first | assumption | exact Own.rd ‹_› | exact Rd.oC ‹_› hB | exact Own.rd (Own.oC ‹_› hB)) (by first | assumption | exact Own.rd ‹_› | exact Rd.oC ‹_› hB | exact Own.rd (Own.oC ‹_› hB)) (by first | assumption | exact Own.rd ‹_› | exact Rd.oC ‹_› hB | exact Own.rd (Own.oC ‹_› hB)) (by first | assumption | exact Own.rd ‹_› | exact Rd.oC ‹_› hB | exact Own.rd (Own.oC ‹_› hB)) (by first | assumption | exact Own.rd ‹_› | exact Rd.oC ‹_› hB | exact Own.rd (Own.oC ‹_› hB)) (fi hok (by omega)).1)) rfl ?_)))
    rintro v6 w8 ⟨o6, k8⟩
    have gl_o6 := hB.size
    replace hb1 := hb1.oC k8
    replace o1 := o1.oC k8
    replace hB := hB.trans k8
    refine ah (cf (m := 1) (ls := [leafB x.lf]) (xs := [.tmp 28]) (us := [_]) aJ am rfl rfl (bL (by first | exact Rd.nil _ _ | exact (by first | assumption | exact Own.rd ‹_› | exact Rd.oC ‹_› hB | exact Own.rd (Own.oC ‹_› hB))) (bb _)) rfl rfl) rfl ?_
    rintro v7 w9 ⟨sl2, k9⟩
    replace hb1 := hb1.oC k9
    replace o1 := o1.oC k9
    replace o6 := o6.oC k9
    replace hB := hB.trans k9
    refine ah (ab (vs := [_]) rfl (cH _ [leafB x.lf] _ _ ‹_› (by omega))) rfl ?_
    rintro v8 w10 ⟨o8, k10⟩
    have gl_o8 := hB.size
    replace hb1 := hb1.oC k10
    replace o1 := o1.oC k10
    replace o6 := o6.oC k10
    replace sl2 := sl2.oC k10
    replace hB := hB.trans k10
    have lt_o9 := hb1.lt
    refine ah (bW aA cT rfl o1 rfl (show RdB _ _ _ from o8.rd) (by first | omega | (simp only [List.length_append] at *; omega)) (by omega)) rfl ?_
    rintro v9 w11 ⟨o9, k11, lb3, _⟩
    replace hB := hB.new k11 (fun x hx => .inl (Nat.le_trans ge_b1 (Nat.le_of_lt (o1.blk x hx).1)))
    replace hb1 := hb1.keep k11 (fun hm => absurd (o1.blk _ hm).1 (Nat.lt_irrefl _))
    refine oga rfl rfl (oga rfl rfl (a6 (af [(2, _), (3, _)] ⟨rfl, rfl, trivial⟩ (bO hfin Try.results8 rfl rfl ?_))))
    have hh := o9
    exact ⟨_, by rw [hok]; rfl, by rw [hok]; exact (show OwnB _ _ _ (prB x) from by have e : [0, byteAt x.kind 0] ++ joinB [leafB x.lf] = prB x := (by unfold prB prX; rw [e1, if_neg (by omega), if_pos (by omega)]); unfold OwnB; rw [← e]; simp only [List.length_append] at hh ⊢; exact hh).lo (by omega), hB⟩
   ·
    refine a5 (aZ (a7 (bE rfl rfl) rfl (oga rfl rfl (a6 (bF rfl (fun hc4 => ?_) (fun hc4 => ?_))))))
    ·
     refine a5 (aZ ?_)
     have m1 : (be x.ix (4 : Int).toNat).length = 4 := bi _ _
     refine ogm rfl rfl (a7 (ak aB rfl bh (by decide) rfl) rfl (a7 (ae cY rfl hb1 rfl) rfl (ah (ab (vs := [_, _]) rfl (ef x.ix 4 (by decide) _)) rfl ?_)))
     rintro v10 w12 ⟨o10, k12⟩
     have gl_o10 := hB.size
     replace hb1 := hb1.oC k12
     replace o1 := o1.oC k12
     replace hB := hB.trans k12
     have lt_o11 := hb1.lt
     refine ah (bW aA cT rfl o1 rfl (show RdB _ _ _ from o10.rd) (by first | omega | (simp only [List.length_append] at *; omega)) (by omega)) rfl ?_
     rintro v11 w13 ⟨o11, k13, lb4, _⟩
     replace hB := hB.new k13 (fun x hx => .inl (Nat.le_trans ge_b1 (Nat.le_of_lt (o1.blk x hx).1)))
     replace hb1 := hb1.keep k13 (fun hm => absurd (o1.blk _ hm).1 (Nat.lt_irrefl _))
     refine oga rfl rfl (oga rfl rfl (a6 (af [(2, _), (3, _)] ⟨rfl, rfl, trivial⟩ (bO hfin Try.results8 rfl rfl ?_))))
     have hh := o11
     exact ⟨_, by rw [hok]; rfl, by rw [hok]; exact (show OwnB _ _ _ (prB x) from by have e : [0, byteAt x.kind 0] ++ be x.ix (4 : Int).toNat = prB x := (by unfold prB prX; rw [if_neg (by omega), if_neg (by omega), if_pos (by omega)]; rfl); unfold OwnB; rw [← e]; simp only [List.length_append] at hh ⊢; exact hh).lo (by omega), hB⟩
    ·
     refine a5 (aZ (a7 (bE rfl rfl) rfl (oga rfl rfl (a6 (bF rfl (fun hc5 => ?_) (fun hc5 => ?_))))))
     ·
      refine a5 (aZ ?_)
      have q1 := jX hok (by omega)
      obtain ⟨e1, m1⟩ := n9 (a := x.psk) (b := x.nonce) (by omega) (by omega)
      refine ogm rfl rfl (a7 (ak aB rfl am (by decide) rfl) rfl (a7 (ae aw rfl hb1 rfl) rfl (a7 (ak aB rfl am (by decide) rfl) rfl (a7 (ae aw rfl hb1 rfl) rfl (ah (cf (m := 2) (ls := [x.psk, x.nonce]) (xs := [.tmp 43, .tmp 45]) (us := [_, _]) aJ am rfl rfl (bL (by first | exact Rd.nil _ _ | exact (by first | assumption | exact Own.rd ‹_› | exact Rd.oC ‹_› hB | exact Own.rd (Own.oC ‹_› hB))) (bL (by first | exact Rd.nil _ _ | exact (by first | assumption | exact Own.rd ‹_› | exact Rd.oC ‹_› hB | exact Own.rd (Own.oC ‹_› hB))) (bb _))) rfl rfl) rfl ?_)))))
      rintro v12 w14 ⟨sl3, k14⟩
      replace hb1 := hb1.oC k14
      replace o1 := o1.oC k14
      replace hB := hB.trans k14
      refine ah (ab (vs := [_]) rfl (cH _ [x.psk, x.nonce] _ _ ‹_› (by omega))) rfl ?_
      rintro v13 w15 ⟨o13, k15⟩
      have gl_o13 := hB.size
      replace hb1 := hb1.oC k15
      replace o1 := o1.oC k15
      replace sl3 := sl3.oC k15
      replace hB := hB.trans k15
      have lt_o14 := hb1.lt
      refine ah (bW aA cT rfl o1 rfl (show RdB _ _ _ from o13.rd) (by first | omega | (simp only [List.length_append] at *; omega)) (by omega)) rfl ?_
      rintro v14 w16 ⟨o14, k16, lb5, _⟩
      replace hB := hB.new k16 (fun x hx => .inl (Nat.le_trans ge_b1 (Nat.le_of_lt (o1.blk x hx).1)))
      replace hb1 := hb1.keep k16 (fun hm => absurd (o1.blk _ hm).1 (Nat.lt_irrefl _))
      refine oga rfl rfl (oga rfl rfl (a6 (af [(2, _), (3, _)] ⟨rfl, rfl, trivial⟩ (bO hfin Try.results8 rfl rfl ?_))))
      have hh := o14
      exact ⟨_, by rw [hok]; rfl, by rw [hok]; exact (show OwnB _ _ _ (prB x) from by have e : [0, byteAt x.kind 0] ++ joinB [x.psk, x.nonce] = prB x := (by unfold prB prX; rw [e1, if_neg (by omega), if_neg (by omega), if_neg (by omega), if_pos (by omega)]); unfold OwnB; rw [← e]; simp only [List.length_append] at hh ⊢; exact hh).lo (by omega), hB⟩
     ·
      refine aj (cG (a5 (aZ ?_)))
      have q1 := fh hok (by omega) (by omega) (by omega) (by omega)
      obtain ⟨e1, m1⟩ := iS (a := x.enc) (by omega)
      refine ogm rfl rfl (a7 (ak aB rfl am (by decide) rfl) rfl (a7 (ae aw rfl hb1 rfl) rfl (ah (cf (m := 1) (ls := [x.enc]) (xs := [.tmp 51]) (us := [_]) aJ am rfl rfl (bL (by first | exact Rd.nil _ _ | exact (by first | assumption | exact Own.rd ‹_› | exact Rd.oC ‹_› hB | exact Own.rd (Own.oC ‹_› hB))) (bb _)) rfl rfl) rfl ?_)))
      rintro v15 w17 ⟨sl4, k17⟩
      replace hb1 := hb1.oC k17
      replace o1 := o1.oC k17
      replace hB := hB.trans k17
      refine ah (ab (vs := [_]) rfl (cH _ [x.enc] _ _ ‹_› (by omega))) rfl ?_
      rintro v16 w18 ⟨o16, k18⟩
      have gl_o16 := hB.size
      replace hb1 := hb1.oC k18
      replace o1 := o1.oC k18
      replace sl4 := sl4.oC k18
      replace hB := hB.trans k18
      have lt_o17 := hb1.lt
      refine ah (bW aA cT rfl o1 rfl (show RdB _ _ _ from o16.rd) (by first | omega | (simp only [List.length_append] at *; omega)) (by omega)) rfl ?_
      rintro v17 w19 ⟨o17, k19, lb6, _⟩
      replace hB := hB.new k19 (fun x hx => .inl (Nat.le_trans ge_b1 (Nat.le_of_lt (o1.blk x hx).1)))
      refine oga rfl rfl (oga rfl rfl (a6 (af [(2, _), (3, _)] ⟨rfl, rfl, trivial⟩ (bO hfin Try.results8 rfl rfl ?_))))
      have hh := o17
      exact ⟨_, by rw [hok]; rfl, by rw [hok]; exact (show OwnB _ _ _ (prB x) from by have e : [0, byteAt x.kind 0] ++ joinB [x.enc] = prB x := (by unfold prB prX; rw [e1, if_neg (by omega), if_neg (by omega), if_neg (by omega), if_neg (by omega)]); unfold OwnB; rw [← e]; simp only [List.length_append] at hh ⊢; exact hh).lo (by omega), hB⟩
end Go.Proofs.Ytonchmcppekldaa.W
namespace Go.Eng
open Go Go.Byt
def kpP (c : List UInt8) : Pr := let k := (kyA c).1
 if k = 1 ∨ k = 2 ∨ k = 3 ∨ k = 4 then kyP c else ⟨k, bg, bf, 0, [], [], (kyV c).1⟩
def kpOk (c : List UInt8) : Bool := prOk (kpP c) && decide (prB (kpP c) = c)
theorem fO {c t : List UInt8} {k : Int} (h : c = be k 2 ++ t) (h0 : 0 ≤ k) (h1 : k < 65536) : kyA c = (k, t, 0) := by
 subst h
 exact en (b := 16) (s := 2) (by decide) h0 (by simpa using h1) t (fun h => by simp at h)
theorem lS {c : List UInt8} (h : (kyA c).2.2 = 0) : c = be (kyA c).1 2 ++ (kyA c).2.1 := (eN (s := 2) (b := 16) (by decide) (show (rNum 16 c 0 ((2 : Nat) : Int)).2.2 = 0 from h)).2
theorem cz {t v : List UInt8} (h : v.length ≤ 65536) (ht : t = vec v) : rVec t 0 = (v, [], 0) := by
 have := cB h []
 rw [List.append_nil] at this; rw [ht]; exact this
theorem dJ {k : Int} (h : k = 1 ∨ k = 2 ∨ k = 3 ∨ k = 4 ∨ k = 6) : be k 2 = [0, byteAt k 0] := by
 rcases h with rfl | rfl | rfl | rfl | rfl <;> decide
theorem pkOk_0 : pkOk bg = false := by decide
theorem nW : leafOk bf = false := by decide
theorem gpR_ok {v : List UInt8} (h : pkOk (gpR v) = true) : gpOk v = true ∧ pkB (gpR v) = v := by
 cases hg : gpOk v with
 | false => unfold gpR at h; rw [hg] at h; rw [cond_false, pkOk_0] at h; cases h
 | true =>
   refine ⟨rfl, ?_⟩
   unfold gpR; rw [hg]
   unfold gpOk at hg
   have := (Bool.and_eq_true_iff.1 hg).2
   exact of_decide_eq_true this
theorem glR_ok {v : List UInt8} (h : leafOk (glR v) = true) : glOk v = true ∧ leafB (glR v) = v := by
 cases hg : glOk v with
 | false => unfold glR at h; rw [hg] at h; rw [cond_false, nW] at h; cases h
 | true =>
   refine ⟨rfl, ?_⟩
   unfold glR; rw [hg]
   unfold glOk at hg
   have := (Bool.and_eq_true_iff.1 hg).2
   exact of_decide_eq_true this
theorem j1 {c v : List UInt8} {k : Int} (hk : k = 1 ∨ k = 2 ∨ k = 3 ∨ k = 4 ∨ k = 6) (hA : (kyA c).1 = k) (hv : v = (kyV c).1) (hl : v.length ≤ 65536) : rEnd (kyV c).2.1 (kyV c).2.2 = 0 ↔ [0, byteAt k 0] ++ vec v = c := by
 constructor
 · intro h
   obtain ⟨h1, h2⟩ := (dn _ _).1 h
   obtain ⟨a1, a2⟩ := cJ (show (rVec (kyA c).2.1 (kyA c).2.2).2.2 = 0 from h2)
   have e := lS a1
   have a3 : (kyA c).2.1 = vec (kyV c).1 ++ (kyV c).2.1 := a2
   rw [h1, List.append_nil] at a3
   rw [hA, dJ hk, a3, ← hv] at e
   exact e.symm
 · intro h
   rw [← dJ hk] at h
   have e := fO h.symm (by omega) (by omega)
   have e2 : kyV c = (v, [], 0) := by unfold kyV; rw [e]; exact cz hl rfl
   rw [e2]; exact (dn _ _).2 ⟨rfl, rfl⟩
theorem dX (c : List UInt8) : kgOk c = kpOk c ∧ (kpOk c = true → kpP c = kyP c) := by
 by_cases h1 : (kyA c).1 = 1
 · obtain ⟨p1, s1, e1⟩ := lR h1
   have hp : kpP c = kyP c := by unfold kpP; simp only; rw [if_pos (.inl h1)]
   refine ⟨?_, fun _ => hp⟩
   unfold kgOk kpOk
   rw [hp]
   cases hok : prOk (kyP c) with
   | false => simp
   | true =>
     have hpk := fj hok (by rw [p1])
     have hpk2 : pkOk (gpR (kyV c).1) = true := by rw [p1] at hpk; exact hpk
     obtain ⟨g1, g2⟩ := gpR_ok hpk2
     have hE : kyE c = 0 := by rw [e1]; unfold gpE; rw [g1]; rfl
     have hv := j1 (.inl rfl) h1 rfl (bU _ _)
     have hB : prB (kyP c) = [0, byteAt 1 0] ++ vec (kyV c).1 := by rw [p1]; unfold prB prX; rw [if_pos rfl, g2]
     rw [hE, s1, hB, decide_eq_true rfl]
     simp only [Bool.true_and, Bool.and_true]
     exact decide_eq_decide.2 hv
 · by_cases h2 : (kyA c).1 = 2
   · obtain ⟨p1, s1, e1⟩ := lQ h2
     have hp : kpP c = kyP c := by unfold kpP; simp only; rw [if_pos (.inr (.inl h2))]
     refine ⟨?_, fun _ => hp⟩
     unfold kgOk kpOk
     rw [hp]
     cases hok : prOk (kyP c) with
     | false => simp
     | true =>
       have hpk := (fi hok (by rw [p1])).1
       have hpk2 : leafOk (glR (kyV c).1) = true := by rw [p1] at hpk; exact hpk
       obtain ⟨g1, g2⟩ := glR_ok hpk2
       have hE : kyE c = 0 := by rw [e1]; unfold glE; rw [g1]; rfl
       have hv := j1 (.inr (.inl rfl)) h2 rfl (bU _ _)
       have hB : prB (kyP c) = [0, byteAt 2 0] ++ vec (kyV c).1 := by rw [p1]; unfold prB prX; rw [if_neg (show ¬ (2 : Int) = 1 by decide), if_pos rfl, g2]
       rw [hE, s1, hB, decide_eq_true rfl]
       simp only [Bool.true_and, Bool.and_true]
       exact decide_eq_decide.2 hv
   · by_cases h3 : (kyA c).1 = 3
     · obtain ⟨p1, s1, e1⟩ := lP h3
       have hp : kpP c = kyP c := by unfold kpP; simp only; rw [if_pos (.inr (.inr (.inl h3)))]
       refine ⟨?_, fun _ => hp⟩
       unfold kgOk kpOk
       rw [hp]
       cases hok : prOk (kyP c) with
       | false => simp
       | true =>
         have hix := lD hok (by rw [p1])
         have hix2 : 0 ≤ (kyN c).1 ∧ (kyN c).1 < 64 := by rw [p1] at hix; exact hix
         have hB : prB (kyP c) = [0, byteAt 3 0] ++ be (kyN c).1 4 := by rw [p1]; unfold prB prX; rw [if_neg (show ¬ (3 : Int) = 1 by decide), if_neg (show ¬ (3 : Int) = 2 by decide), if_pos rfl]
         have hv : rEnd (kyN c).2.1 (kyN c).2.2 = 0 ↔ [0, byteAt 3 0] ++ be (kyN c).1 4 = c := by
           constructor
           · intro h
             obtain ⟨q1, q2⟩ := (dn _ _).1 h
             obtain ⟨a1, a2⟩ := eN (s := 4) (b := 32) (by decide) (show (rNum 32 (kyA c).2.1 (kyA c).2.2 ((4 : Nat) : Int)).2.2 = 0 from q2)
             have e := lS a1
             have a3 : (kyA c).2.1 = be (kyN c).1 4 ++ (kyN c).2.1 := a2
             rw [q1, List.append_nil] at a3
             rw [h3, dJ (.inr (.inr (.inl rfl))), a3] at e
             exact e.symm
           · intro h
             obtain ⟨nn, hnn⟩ : ∃ nn, nn = (kyN c).1 := ⟨_, rfl⟩
             rw [← dJ (.inr (.inr (.inl rfl))), ← hnn] at h
             have e := fO h.symm (by decide) (by decide)
             have e2 : kyN c = (nn, [], 0) := by
               have := en (b := 32) (n := nn) (s := 4) (by decide) (hnn ▸ hix2.1) (hnn ▸ Int.lt_trans hix2.2 (by decide)) [] (fun h => by simp at h)
               rw [List.append_nil] at this
               unfold kyN; rw [e]; exact this
             rw [e2]; exact (dn _ _).2 ⟨rfl, rfl⟩
         rw [e1, s1, hB, decide_eq_true rfl]
         simp only [Bool.true_and, Bool.and_true]
         exact decide_eq_decide.2 hv
     · by_cases h4 : (kyA c).1 = 4
       · obtain ⟨p1, s1, e1⟩ := lO h4
         have hp : kpP c = kyP c := by unfold kpP; simp only; rw [if_pos (.inr (.inr (.inr h4)))]
         refine ⟨?_, fun _ => hp⟩
         unfold kgOk kpOk
         rw [hp]
         cases hok : prOk (kyP c) with
         | false => simp
         | true =>
           have hB : prB (kyP c) = [0, byteAt 4 0] ++ (vec (kyV c).1 ++ vec (kyW c).1) := by rw [p1]; unfold prB prX; rw [if_neg (show ¬ (4 : Int) = 1 by decide), if_neg (show ¬ (4 : Int) = 2 by decide), if_neg (show ¬ (4 : Int) = 3 by decide), if_pos rfl]
           have hv : rEnd (kyW c).2.1 (kyW c).2.2 = 0 ↔ [0, byteAt 4 0] ++ (vec (kyV c).1 ++ vec (kyW c).1) = c := by
             constructor
             · intro h
               obtain ⟨q1, q2⟩ := (dn _ _).1 h
               obtain ⟨b1, b2⟩ := cJ (show (rVec (kyV c).2.1 (kyV c).2.2).2.2 = 0 from q2)
               obtain ⟨a1, a2⟩ := cJ (show (rVec (kyA c).2.1 (kyA c).2.2).2.2 = 0 from b1)
               have e := lS a1
               have a3 : (kyA c).2.1 = vec (kyV c).1 ++ (kyV c).2.1 := a2
               have b3 : (kyV c).2.1 = vec (kyW c).1 ++ (kyW c).2.1 := b2
               rw [q1, List.append_nil] at b3
               rw [h4, dJ (.inr (.inr (.inr (.inl rfl)))), a3, b3] at e
               exact e.symm
             · intro h
               obtain ⟨vv, hvv⟩ : ∃ vv, vv = (kyV c).1 := ⟨_, rfl⟩
               obtain ⟨ww, hww⟩ : ∃ ww, ww = (kyW c).1 := ⟨_, rfl⟩
               rw [← dJ (.inr (.inr (.inr (.inl rfl)))), ← hvv, ← hww] at h
               have e := fO h.symm (by decide) (by decide)
               have e2 : kyV c = (vv, vec ww, 0) := by unfold kyV; rw [e]; exact cB (hvv ▸ bU _ _) _
               have e3 : kyW c = (ww, [], 0) := by unfold kyW; rw [e2]; exact cz (hww ▸ bU _ _) rfl
               rw [e3]; exact (dn _ _).2 ⟨rfl, rfl⟩
           rw [e1, s1, hB, decide_eq_true rfl]
           simp only [Bool.true_and, Bool.and_true]
           exact decide_eq_decide.2 hv
       · have hn : ¬ ((kyA c).1 = 1 ∨ (kyA c).1 = 2 ∨ (kyA c).1 = 3 ∨ (kyA c).1 = 4) := by omega
         by_cases h6 : (kyA c).1 = 6
         · obtain ⟨p1, s1, e1⟩ := ky_6 h6
           have hp : kpP c = kyP c := by unfold kpP; simp only; rw [if_neg hn, p1, h6]
           refine ⟨?_, fun _ => hp⟩
           unfold kgOk kpOk
           rw [hp]
           cases hok : prOk (kyP c) with
           | false => simp
           | true =>
             have hv := j1 (.inr (.inr (.inr (.inr rfl)))) h6 rfl (bU _ _)
             have hB : prB (kyP c) = [0, byteAt 6 0] ++ vec (kyV c).1 := by rw [p1]; unfold prB prX; rw [if_neg (show ¬ (6 : Int) = 1 by decide), if_neg (show ¬ (6 : Int) = 2 by decide), if_neg (show ¬ (6 : Int) = 3 by decide), if_neg (show ¬ (6 : Int) = 4 by decide)]
             rw [e1, s1, hB, decide_eq_true rfl]
             simp only [Bool.true_and, Bool.and_true]
             exact decide_eq_decide.2 hv
         · obtain ⟨p1, s1, e1⟩ := ky_n h1 h2 h3 h4 h6
           have k1 : prOk (kyP c) = false := by
             cases hok : prOk (kyP c) with
             | false => rfl
             | true => exfalso; have := (fh hok (by rw [p1]; exact h1) (by rw [p1]; exact h2) (by rw [p1]; exact h3) (by rw [p1]; exact h4)).1; rw [p1] at this; exact h6 this
           have hp : kpP c = ⟨(kyA c).1, bg, bf, 0, [], [], (kyV c).1⟩ := by unfold kpP; simp only; rw [if_neg hn]
           have k2 : prOk (kpP c) = false := by
             cases hok : prOk (kpP c) with
             | false => rfl
             | true => exfalso; have := (fh hok (by rw [hp]; exact h1) (by rw [hp]; exact h2) (by rw [hp]; exact h3) (by rw [hp]; exact h4)).1; rw [hp] at this; exact h6 this
           refine ⟨?_, fun h => ?_⟩
           · unfold kgOk kpOk; rw [k1, k2]; simp
           · unfold kpOk at h; rw [k2] at h; cases h
end Go.Eng
