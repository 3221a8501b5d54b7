/- Contracts and laws, part 6 of 6: what each function of the program and of the reference computes, shown once. -/
import Derived.LaidMore
import Derived.Lay
import Derived.Maps.RangeRun
import Derived.OpenShut
import Derived.ProofKit
import Derived.SevenTiedAt
import Derived.Stop.Joined
import Derived.Test.YtjfmmoonpdifcaaDoorRows
import Derived.Test.YtjfmmoonpdifcaaDoorQfe
set_option maxRecDepth 100000
set_option maxHeartbeats 4000000
set_option linter.unusedVariables false
set_option linter.unusedSimpArgs false
namespace Go.Eng
open Go
section
variable {P : Program} {n : NN} {fin : Exit → Act → World → Prop} {k : List KI} {f : Fr} {w : World}
def updV (vs : Nat → Value) (i : Nat) (v : Value) : Nat → Value := fun j => bif Nat.beq j i then v else vs j
def ObV (P : Program) (n : NN) (l : List Oper) (f0 : Fr) (S : Nat → Value → Prop) (J : (Nat → Bool) → (Nat → Value) → World → Prop) (i : Nat) (o : Oper) : Prop :=
 ∃ deps : List Nat, depOk l i deps = true ∧ ∀ (L : Nat → Bool) (w : World) (vs : Nat → Value), L i = false → (∀ j, j ∈ deps → L j = true) → J L vs w → (∀ j, j ∈ deps → S j (vs j)) →
   ∃ c : Bool, (∀ a, Kn n (depFr l vs deps ++ f0) a → Region.wanted o (yielded l.toArray a.tmps) = c) ∧
     (c = true → Does P n (depFr l vs deps ++ f0) w o.op o.type (fun v w' => S i v ∧ J (updL L i) (updV vs i v) w')) ∧ (c = false → S i undef ∧ J (updL L i) (updV vs i undef) w)
def ObsV (P : Program) (n : NN) (l : List Oper) (f0 : Fr) (S : Nat → Value → Prop) (J : (Nat → Bool) → (Nat → Value) → World → Prop) : Nat → List Oper → Prop
 | _, [] => True
 | i, o :: r => ObV P n l f0 S J i o ∧ ObsV P n l f0 S J (i + 1) r
theorem ObsV.get {l : List Oper} {f0 : Fr} {S : Nat → Value → Prop} {J : (Nat → Bool) → (Nat → Value) → World → Prop} : ∀ {r : List Oper} {i : Nat}, ObsV P n l f0 S J i r → ∀ (k : Nat) (o : Oper), r[k]? = some o → ObV P n l f0 S J (i + k) o
 | [], _, _, k, o, h => by simp at h
 | x :: r, i, ⟨h1, h2⟩, 0, o, h => by simp at h; subst h; exact h1
 | x :: r, i, ⟨h1, h2⟩, k + 1, o, h => by
   have := ObsV.get h2 k o (by simpa using h)
   rwa [Nat.add_assoc, Nat.add_comm 1 k] at this
theorem fk {id : Nat} {l : List Oper} (p : Nat) (hm : P.follows .mixedOrders = true) (f0 : Fr) (S : Nat → Value → Prop) (J : (Nat → Bool) → (Nat → Value) → World → Prop) (hf : Fr.sub f0 f) (hok : drawOk n l = true) (ht : dZ l p = true) (hfree0 : freeOk (l.take p) f0 = true)
   (hJ0 : ∀ vs, J (fun _ => false) vs w.drew) (hJc : ∀ L vs vs' w', (∀ j, L j = true → hasDst l j = true → vs j = vs' j) → J L vs w' → J L vs' w')
   (hob : ObsV P n l f0 S J 0 (l.take p))
   (h : ∀ w' L, (∀ i, i < p → L i = true) → ∀ vs : Nat → Value, J L vs w' → (∀ i, i < p → hasDst l i = true → S i (vs i)) → OW P fin n k l.toArray (l.drop p) (depFr l vs ((List.range p).filter (hasDst l)) ++ f0) w') :
   TW P fin n (.c (.region id l.toArray true) :: k) f w := by
 intro a ha
 simp only [KQ]
 have ha0 := ha.sub hf
 have hfree : ∀ i, i < p → i < l.length → hasDst l i = true → f0.get (dstOf l i) = none := by
   intro i hi hl hd
   have e1 : dstOf (l.take p) i = dstOf l i := by unfold dstOf; rw [List.getElem?_take, if_pos hi]
   have e2 : hasDst (l.take p) i = hasDst l i := by unfold hasDst; rw [List.getElem?_take, if_pos hi]
   rw [← e1]
   exact cD (l := l.take p) (by rw [List.length_take]; omega) (by rw [e2]; exact hd) hfree0
 refine wp_region_any hm ?_
 have hpl : p ≤ l.length := by simp only [dZ, Bool.and_eq_true] at ht; exact Nat.le_of_ble_eq_true ht.1.1
 have hend : ∀ (fuel : Nat) (listed : Array Bool) (L : Nat → Bool) (a : Act) (w' : World), listed.size = l.length → left l.length listed ≤ fuel → Kn n f0 a → (∀ i, L i = listed.getD i false) → J L (fun i => a.tmps.getD (dstOf l i) undef) w' → (∀ i, i < l.length → listed.getD i false = decide (i < p)) →
     (∀ i, listed.getD i false = true → i < l.length ∧ (hasDst l i = true → S i (a.tmps.getD (dstOf l i) undef))) → wpAny P .any l.toArray (KQ P fin k) fuel listed a w' := by
   intro fuel listed L a w' hs hle hk hL hw hall hS
   refine eC hok ht (l.length - p) p fuel listed a w' rfl hpl (Nat.le_refl _) ?_ hs hall ?_
   · refine Nat.le_trans ?_ hle
     unfold left
     have e1 : l.length - p = ((List.range' p (l.length - p)).countP fun i => !listed.getD i true) := by
       rw [List.countP_eq_length.2 (fun i hi => ?_)]
       · simp
       · rw [List.mem_range'_1] at hi
         rw [bP hs (by omega) true false, hall i (by omega)]; simp; omega
     rw [e1]
     have e2 : List.range l.length = List.range p ++ List.range' p (l.length - p) := by
       have e3 := List.range'_append_1 (s := 0) (m := p) (n := l.length - p)
       rw [Nat.zero_add] at e3
       rw [List.range_eq_range', List.range_eq_range', e3]; congr 1; omega
     rw [e2, List.countP_append]; omega
   · refine h w' L (fun i hi => by rw [hL, hall i (by omega)]; simpa using hi) (fun i => a.tmps.getD (dstOf l i) undef) hw (fun i hi => (hS i (by rw [hall i (by omega)]; simpa using hi)).2) a (Kn.app ?_ hk)
     intro q hq
     obtain ⟨j, _, rfl⟩ := ca hq
     rfl
 have key : ∀ (fuel : Nat) (listed : Array Bool) (L : Nat → Bool) (a : Act) (w' : World), listed.size = l.length → (∀ i, L i = listed.getD i false) → left l.length listed ≤ fuel → Kn n f0 a → J L (fun i => a.tmps.getD (dstOf l i) undef) w' → (∀ i, p ≤ i → i < l.length → listed.getD i false = false) → (∀ m j, listed.getD m false = true → depB l m j = true → listed.getD j false = true) →
     (∀ i, listed.getD i false = true → i < l.length ∧ (hasDst l i = true → S i (a.tmps.getD (dstOf l i) undef))) → wpAny P .any l.toArray (KQ P fin k) fuel listed a w' := by
   intro fuel
   induction fuel with
   | zero =>
     intro listed L a w' hs hL hle hk hw hun hcl hS
     refine hend 0 listed L a w' hs hle hk hL hw (fun i hi => ?_) hS
     cases hc : listed.getD i false with
     | true => by_cases h1 : i < p
               · simp [h1]
               · rw [hun i (by omega) hi] at hc; cases hc
     | false =>
       exfalso
       have := cm hi hs (by rw [bP hs hi true false]; exact hc)
       omega
   | succ fuel ih =>
     intro listed L a w' hs hL hle hk hw hun hcl hS
     by_cases hfull : ∀ i, i < p → listed.getD i false = true
     · refine hend (fuel + 1) listed L a w' hs hle hk hL hw (fun i hi => ?_) hS
       by_cases h1 : i < p
       · rw [hfull i h1]; simp [h1]
       · rw [hun i (by omega) hi]; simp [h1]
     · obtain ⟨q, hq⟩ := Classical.not_forall.1 hfull
       obtain ⟨hq1, hq2⟩ := Classical.not_imp.1 hq
       have hq2 : listed.getD q false = false := eq_false_of_ne_true hq2
       refine ⟨fun hr => (by
         have := dn hok rfl hs hr q (by omega)
         rw [hq2] at this; cases this), fun i hi => ?_⟩
       obtain ⟨h0, o, ho, hedge⟩ := mem_ready.1 hi
       have ho' : l[i]? = some o := by simpa using ho
       have hlt : i < l.length := (List.getElem?_eq_some_iff.1 ho').1
       have hip : i < p := by
         rcases Nat.lt_or_ge i p with h1 | h1
         · exact h1
         · exfalso
           have hdepl : ∀ j, depB l i j = true → listed.getD j false = true := by
             intro j hd
             obtain ⟨o', ho2, e, he, h3, h4⟩ := fB hd
             rw [ho'] at ho2
             obtain rfl := Option.some.inj ho2
             have := hedge e he h4
             rwa [h3] at this
           rcases Nat.lt_or_ge p i with h8 | h8
           · have := hdepl _ (eb ht hlt h8)
             rw [hun (i - 1) (by omega) (by omega)] at this; cases this
           · have hpi : i = p := by omega
             have := fm (S := fun j => listed.getD j false = true) ht (by omega) (fun m j hm hd => hm.elim (fun e => hdepl j (by rw [hpi, ← e]; exact hd)) (fun hl => hcl m j hl hd)) _ q hq1 rfl
             rw [hq2] at this; cases this
       have hobi := ObsV.get hob i o (by rw [List.getElem?_take, if_pos hip]; exact ho')
       rw [Nat.zero_add] at hobi
       obtain ⟨deps, hdep, hobl⟩ := hobi
       have h1 := List.all_eq_true.1 hok i (List.mem_range.2 hlt)
       simp only [ho', Bool.and_eq_true] at h1
       obtain ⟨⟨hd2, _⟩, hd4⟩ := h1
       have hLi : L i = false := by rw [hL, bP hs hlt false true]; exact h0
       have hdl : ∀ j, j ∈ deps → listed.getD j false = true := by
         intro j hj
         have h2 := List.all_eq_true.1 hdep j hj
         simp only [ho', Bool.and_eq_true] at h2
         obtain ⟨e, he, h3⟩ := List.any_eq_true.1 h2.2
         simp only [Bool.and_eq_true, beq_iff_eq] at h3
         have := hedge e (Array.mem_toList_iff.1 he) h3.2
         rwa [h3.1] at this
       have hdeps : ∀ j, j ∈ deps → S j (a.tmps.getD (dstOf l j) undef) := by
         intro j hj
         have h2 := List.all_eq_true.1 hdep j hj
         simp only [ho', Bool.and_eq_true] at h2
         exact (hS j (hdl j hj)).2 h2.1
       obtain ⟨c, hc1, hc2, hc3⟩ := hobl L w' (fun j => a.tmps.getD (dstOf l j) undef) hLi (fun j hj => by rw [hL]; exact hdl j hj) hw hdeps
       have hkd : Kn n (depFr l (fun j => a.tmps.getD (dstOf l j) undef) deps ++ f0) a := Kn.app (fun p hp => by
         obtain ⟨j, _, rfl⟩ := ca hp; rfl) hk
       have hL' : ∀ j, updL L i j = (listed.setIfInBounds i true).getD j false := by
         intro j
         unfold updL
         by_cases hij : j = i
         · subst hij
           have : Nat.beq j j = true := Nat.beq_refl j
           rw [this, Array.getD_eq_getD_getElem?]
           simp [hs, hlt]
         · have : Nat.beq j i = false := by
             cases hb : Nat.beq j i with
             | false => rfl
             | true => exact absurd (Nat.eq_of_beq_eq_true hb) hij
           rw [this, getD_set_ne false (Ne.symm hij), cond_false, hL]
       have hleft := cm hlt hs h0
       have hun' : ∀ j, p ≤ j → j < l.length → (listed.setIfInBounds i true).getD j false = false := fun j h1 h2 => by rw [getD_set_ne false (by omega)]; exact hun j h1 h2
       have hcl' : ∀ m j, (listed.setIfInBounds i true).getD m false = true → depB l m j = true → (listed.setIfInBounds i true).getD j false = true := by
         intro m j hm hd
         have hone : (listed.setIfInBounds i true).getD i false = true := by rw [Array.getD_eq_getD_getElem?]; simp [hs, hlt]
         have hup : listed.getD j false = true → (listed.setIfInBounds i true).getD j false = true := by
           intro h
           by_cases hij : i = j
           · subst hij; exact hone
           · rw [getD_set_ne false hij]; exact h
         by_cases him : i = m
         · subst him
           obtain ⟨o', ho2, e, he, h3, h4⟩ := fB hd
           rw [ho'] at ho2
           obtain rfl := Option.some.inj ho2
           have := hedge e he h4
           rw [h3] at this
           exact hup this
         · rw [getD_set_ne false him] at hm
           exact hup (hcl m j hm hd)
       have hnext : ∀ v w2, S i v → J (updL L i) (updV (fun j => a.tmps.getD (dstOf l j) undef) i v) w2 → wpAny P .any l.toArray (KQ P fin k) fuel (listed.setIfInBounds i true) (a.put o.dst v) w2 := by
         intro v w2 hSv hJv
         cases hod : o.dst with
         | none =>
           refine ih _ (updL L i) _ _ (by simpa using hs) hL' (by omega) hk (hJc _ _ _ _ (fun j hj hdj => ?_) hJv) hun' hcl' ?_
           · have hji : Nat.beq j i = false := by
               cases hb : Nat.beq j i with
               | false => rfl
               | true =>
                 have := Nat.eq_of_beq_eq_true hb; subst this
                 simp [hasDst, ho', hod] at hdj
             show (bif Nat.beq j i then v else a.tmps.getD (dstOf l j) undef) = a.tmps.getD (dstOf l j) undef
             rw [hji]; rfl
           · intro j hj
             by_cases hij : i = j
             · subst hij
               exact ⟨hlt, fun hd => by simp [hasDst, ho', hod] at hd⟩
             · rw [getD_set_ne false hij] at hj
               exact hS j hj
         | some d =>
           have hdd : dstOf l i = d := by simp [dstOf, ho', hod]
           have hhd : hasDst l i = true := by simp [hasDst, ho', hod]
           rw [hdd] at hd2
           have hdn : d < n := bD hd2
           have hsame : (a.put (some d) v).tmps.getD d undef = v := by simp [Act.put, Array.getD_eq_getD_getElem?, hk.size, hdn]
           have hother : ∀ j, i ≠ j → j < l.length → hasDst l j = true → (a.put (some d) v).tmps.getD (dstOf l j) undef = a.tmps.getD (dstOf l j) undef := by
             intro j hij hjl hdj
             have hne : d ≠ dstOf l j := by
               rw [hod] at hd4
               have h6 : ∀ x, x < l.length → (i = x ∨ ¬ dstOf l i = dstOf l x) ∨ hasDst l x = false := by simpa using hd4
               rcases h6 j hjl with (h7 | h7) | h7
               · exact absurd h7 hij
               · rwa [hdd] at h7
               · rw [hdj] at h7; cases h7
             simp only [Act.put, Array.getD_eq_getD_getElem?]; rw [Array.getElem?_setIfInBounds_ne hne]
           refine ih _ (updL L i) _ _ (by simpa using hs) hL' (by omega) (hk.putOther (by rw [← hdd]; exact hfree i hip hlt hhd) v) (hJc _ _ _ _ (fun j hj hdj => ?_) hJv) hun' hcl' ?_
           · by_cases hij : i = j
             · subst hij
               show (bif Nat.beq i i then v else _) = _
               rw [Nat.beq_refl, cond_true, hdd, hsame]
             · have hji : Nat.beq j i = false := by
                 cases hb : Nat.beq j i with
                 | false => rfl
                 | true => exact absurd (Nat.eq_of_beq_eq_true hb).symm hij
               have hj2 : listed.getD j false = true := by
                 have := hL' j; rw [hj, getD_set_ne false hij] at this; exact this.symm
               show (bif Nat.beq j i then v else a.tmps.getD (dstOf l j) undef) = _
               rw [hji, cond_false, hother j hij (hS j hj2).1 hdj]
           · intro j hj
             by_cases hij : i = j
             · subst hij
               refine ⟨hlt, fun _ => ?_⟩
               rw [hdd, hsame]; exact hSv
             · rw [getD_set_ne false hij] at hj
               obtain ⟨hjl, hSj⟩ := hS j hj
               exact ⟨hjl, fun hdj => by rw [hother j hij hjl hdj]; exact hSj hdj⟩
       unfold wpOp
       rw [ho]
       simp only
       rw [hc1 a hkd]
       cases c with
       | true =>
         rw [if_pos rfl]
         exact .inl (hc2 rfl a hkd o.dst o.pos o.after o.guard _ _ (fun v w2 hv => hnext v w2 hv.1 hv.2))
       | false =>
         rw [if_neg (by simp)]
         exact hnext undef w' (hc3 rfl).1 (hc3 rfl).2
 refine key _ _ (fun _ => false) a _ (by simp) ?_ ?_ ha0 (hJ0 _) ?_ ?_ ?_
 · intro i
   rw [Array.getD_eq_getD_getElem?]
   rcases Nat.lt_or_ge i l.toArray.size with h' | h'
   · rw [Array.getElem?_eq_getElem (by simpa using h')]; simp
   · rw [Array.getElem?_eq_none (by simpa using h')]; rfl
 · unfold left
   have := List.countP_le_length (p := fun i => !(Array.replicate l.toArray.size false).getD i true) (l := List.range l.length)
   simpa using this
 · intro i _ hi
   rw [Array.getD_eq_getD_getElem?, Array.getElem?_eq_getElem (by simpa using hi)]; simp
 · intro i j hi
   exfalso
   rw [Array.getD_eq_getD_getElem?] at hi
   rcases Nat.lt_or_ge i l.toArray.size with h' | h'
   · rw [Array.getElem?_eq_getElem (by simpa using h')] at hi; simp at hi
   · rw [Array.getElem?_eq_none (by simpa using h')] at hi; simp at hi
 · intro i hi
   exfalso
   rw [Array.getD_eq_getD_getElem?] at hi
   rcases Nat.lt_or_ge i l.toArray.size with h' | h'
   · rw [Array.getElem?_eq_getElem (by simpa using h')] at hi; simp at hi
   · rw [Array.getElem?_eq_none (by simpa using h')] at hi; simp at hi
end
open Go.MapKept Go.ChangeMaps
def MpI (vl : Int → Bool) (ks : Int → Prop) (es : Array MapEntry) (clock : Nat) : Prop :=
 Stamped es clock ∧ (∀ e ∈ es.toList, ∃ x : Int, e.key = .int .i64 x ∧ e.val = .bool (vl x)) ∧ ∀ x, ks x → ∃ e ∈ es.toList, e.key = .int .i64 x
def MpB (w : World) (m : Nat) (vl : Int → Bool) (ks : Int → Prop) : Prop := ∃ es clock, w.heap[m]? = some (.map es clock) ∧ MpI vl ks es clock
theorem MpB.lt {w : World} {m : Nat} {vl : Int → Bool} {ks : Int → Prop} (h : MpB w m vl ks) : m < w.heap.size := by
 obtain ⟨es, c, h, _⟩ := h
 exact (Array.getElem?_eq_some_iff.1 h).1
theorem MpB.keep {S : List Nat} {w w' : World} {m : Nat} {vl : Int → Bool} {ks : Int → Prop} (h : MpB w m vl ks) (k : Keep S w w') (hn : m ∉ S) : MpB w' m vl ks := by
 have hl := h.lt
 obtain ⟨es, c, h, h2⟩ := h
 exact ⟨es, c, by rw [k.block m hl hn]; exact h, h2⟩
theorem MpB.sub {w : World} {m : Nat} {vl : Int → Bool} {ks ks' : Int → Prop} (h : MpB w m vl ks) (hs : ∀ x, ks' x → ks x) : MpB w m vl ks' := by
 obtain ⟨es, c, h, h1, h2, h3⟩ := h
 exact ⟨es, c, h, h1, h2, fun x hx => h3 x (hs x hx)⟩
section
variable {P : Program} {n : NN} {f : Fr} {w : World} {ty : TypeId}
def MpR (w : World) (m r : Nat) (vl : Int → Bool) (ks : Int → Prop) (Q : Int → Prop) (c : Nat) : Prop :=
 ∃ (es : Array MapEntry) (clock since : Nat) (seen : Array Nat) (c0 : Nat), w.heap[m]? = some (.map es clock) ∧ MpI vl ks es clock ∧ w.heap[r]? = some (.mapIter (some m) since seen c0) ∧ (∀ x ∈ es.toList, x.born < since) ∧ since ≤ c0 ∧ since ≤ clock ∧ (leftOf es seen).size ≤ c ∧
   ∀ e ∈ es.toList, seen.contains e.born = true → ∀ x, e.key = .int .i64 x → Q x
theorem MpR.keep {S : List Nat} {w w' : World} {m r c1 : Nat} {vl : Int → Bool} {ks Q : Int → Prop} (h : MpR w m r vl ks Q c1) (k : Keep S w w') (hm : m ∉ S) (hr : r ∉ S) : MpR w' m r vl ks Q c1 := by
 obtain ⟨es, c, si, se, c0, h1, h2, h3, h4⟩ := h
 exact ⟨es, c, si, se, c0, by rw [k.block m (Array.getElem?_eq_some_iff.1 h1).1 hm]; exact h1, h2, by rw [k.block r (Array.getElem?_eq_some_iff.1 h3).1 hr]; exact h3, h4⟩
end
end Go.Eng
namespace Go.Eng
open Go
structure JJ where
  w0 : World
  lo : Nat
  t8 : TypeId
  tb : TypeId
  l : Value
  xs : List UInt8
  ys : List UInt8
  r : Value
  c : UInt8
def JJ.J (j : JJ) (L : Nat → Bool) (vs : Nat → Value) (w : World) : Prop :=
 Keep (Eng.vblk j.l) j.w0 w ∧ (L 5 = false → Own w j.lo j.t8 1 j.l j.xs.length (bv j.xs)) ∧
 (L 3 = true → Own w j.w0.heap.size j.tb 1 (vs 3) 1 [j.r]) ∧
 (L 4 = true → Own w j.w0.heap.size j.t8 1 (vs 4) j.ys.length (bv j.ys)) ∧
 (L 5 = true → Own w j.lo j.t8 1 (vs 5) (j.xs.length + j.ys.length) (bv (j.xs ++ j.ys)) ∧ ∀ y, y ∈ Eng.vblk (vs 5) → y ∈ Eng.vblk j.l ∨ j.w0.heap.size ≤ y) ∧
 (L 9 = true → Own w j.w0.heap.size j.t8 1 (vs 9) 1 (bv [j.c]))
theorem JJ.J_0 {j : JJ} (ho : Own j.w0 j.lo j.t8 1 j.l j.xs.length (bv j.xs)) (vs : Nat → Value) : j.J (fun _ => false) vs j.w0.drew :=
  ⟨(bp _).weak, fun _ => ho.lh (bp _), (fun h => absurd (show false = true from h) Bool.false_ne_true), (fun h => absurd (show false = true from h) Bool.false_ne_true), (fun h => absurd (show false = true from h) Bool.false_ne_true), (fun h => absurd (show false = true from h) Bool.false_ne_true)⟩
section
variable {j : JJ} {w w' : World} {L : Nat → Bool} {vs vs' : Nat → Value}
theorem JJ.J.same (h : j.J L vs w) (h3 : L 3 = true → vs 3 = vs' 3) (h4 : L 4 = true → vs 4 = vs' 4) (h5 : L 5 = true → vs 5 = vs' 5) (h9 : L 9 = true → vs 9 = vs' 9) : j.J L vs' w :=
 ⟨h.1, h.2.1, fun g => by rw [← h3 g]; exact h.2.2.1 g, fun g => by rw [← h4 g]; exact h.2.2.2.1 g, fun g => by rw [← h5 g]; exact h.2.2.2.2.1 g, fun g => by rw [← h9 g]; exact h.2.2.2.2.2 g⟩
theorem JJ.J.bs3 {v : Value} (h : j.J L vs w) (k : Keep [] w w') (o : Own w' w.heap.size j.tb 1 v 1 [j.r]) : j.J (updL L 3) (updV vs 3 v) w' :=
 ⟨h.1.trans k.weak, fun g => (h.2.1 g).lh k, fun _ => o.lo h.1.size, fun g => (h.2.2.2.1 g).lh k, fun g => ⟨(h.2.2.2.2.1 g).1.lh k, (h.2.2.2.2.1 g).2⟩, fun g => (h.2.2.2.2.2 g).lh k⟩
theorem JJ.J.c4 {v : Value} (h : j.J L vs w) (k : Keep [] w w') (o : Own w' w.heap.size j.t8 1 v j.ys.length (bv j.ys)) : j.J (updL L 4) (updV vs 4 v) w' :=
 ⟨h.1.trans k.weak, fun g => (h.2.1 g).lh k, fun g => (h.2.2.1 g).lh k, fun _ => o.lo h.1.size, fun g => ⟨(h.2.2.2.2.1 g).1.lh k, (h.2.2.2.2.1 g).2⟩, fun g => (h.2.2.2.2.2 g).lh k⟩
theorem JJ.J.bs9 {v : Value} (h : j.J L vs w) (k : Keep [] w w') (o : Own w' w.heap.size j.t8 1 v 1 (bv [j.c])) : j.J (updL L 9) (updV vs 9 v) w' :=
 ⟨h.1.trans k.weak, fun g => (h.2.1 g).lh k, fun g => (h.2.2.1 g).lh k, fun g => (h.2.2.2.1 g).lh k, fun g => ⟨(h.2.2.2.2.1 g).1.lh k, (h.2.2.2.2.1 g).2⟩, fun _ => o.lo h.1.size⟩
theorem JJ.J.app {v : Value} (h : j.J L vs w) (hl : ∀ y, y ∈ Eng.vblk j.l → y < j.w0.heap.size) (o : Own w' j.lo j.t8 1 v (j.xs.length + j.ys.length) (bv (j.xs ++ j.ys))) (k : Keep (Eng.vblk j.l) w w') (lb : ∀ x, x ∈ Eng.vblk v → x ∈ Eng.vblk j.l ∨ w.heap.size ≤ x) : j.J (updL L 5) (updV vs 5 v) w' := by
 have far : ∀ {e : TypeId} {u : Value} {m : Nat} {cs : List Value}, Own w j.w0.heap.size e 1 u m cs → Own w' j.w0.heap.size e 1 u m cs := fun ho => ho.keep k (fun x hx hm => by have h1 := (ho.blk x hx).1; have h2 := hl x hm; omega)
 exact ⟨h.1.trans k, (fun g => absurd (show true = false from g) (by decide)), fun g => far (h.2.2.1 g), fun g => far (h.2.2.2.1 g), fun _ => ⟨o, fun y hy => (lb y hy).imp id (fun h9 => Nat.le_trans h.1.size h9)⟩, fun g => far (h.2.2.2.2.2 g)⟩
end
abbrev SzLe (n : Nat) (w : World) : Prop := n ≤ w.heap.size
theorem SzLe.lh {S : List Nat} {n : Nat} {w w' : World} (h : SzLe n w) (k : Keep S w w') : SzLe n w' := Nat.le_trans h k.size
structure JP where
  w0 : World
  t8 : TypeId
  xs : List UInt8
  ys : List UInt8
def JP.J (j : JP) (L : Nat → Bool) (vs : Nat → Value) (w : World) : Prop :=
 Keep [] j.w0 w ∧ (L 0 = true → L 4 = false → Own w j.w0.heap.size j.t8 1 (vs 0) j.xs.length (bv j.xs)) ∧ (L 3 = true → L 4 = false → Own w j.w0.heap.size j.t8 1 (vs 3) j.ys.length (bv j.ys)) ∧
 (L 4 = true → Own w j.w0.heap.size j.t8 1 (vs 4) (j.xs.length + j.ys.length) (bv (j.xs ++ j.ys)))
theorem JP.J_0 {j : JP} (vs : Nat → Value) : j.J (fun _ => false) vs j.w0.drew :=
  ⟨bp _, (fun h => absurd (show false = true from h) Bool.false_ne_true), (fun h => absurd (show false = true from h) Bool.false_ne_true), (fun h => absurd (show false = true from h) Bool.false_ne_true)⟩
section
variable {j : JP} {w w' : World} {L : Nat → Bool} {vs vs' : Nat → Value}
theorem JP.J.same (h : j.J L vs w) (h0 : L 0 = true → vs 0 = vs' 0) (h3 : L 3 = true → vs 3 = vs' 3) (h4 : L 4 = true → vs 4 = vs' 4) : j.J L vs' w :=
 ⟨h.1, fun g q => by rw [← h0 g]; exact h.2.1 g q, fun g q => by rw [← h3 g]; exact h.2.2.1 g q, fun g => by rw [← h4 g]; exact h.2.2.2 g⟩
theorem JP.J.bs {v : Value} (h : j.J L vs w) (k : Keep [] w w') (o : Own w' w.heap.size j.t8 1 v j.xs.length (bv j.xs)) : j.J (updL L 0) (updV vs 0 v) w' :=
 ⟨h.1.trans k, fun _ _ => o.lo h.1.size, fun g q => (h.2.2.1 g q).lh k, fun g => (h.2.2.2 g).lh k⟩
theorem JP.J.c3 {v : Value} (h : j.J L vs w) (k : Keep [] w w') (o : Own w' w.heap.size j.t8 1 v j.ys.length (bv j.ys)) : j.J (updL L 3) (updV vs 3 v) w' :=
 ⟨h.1.trans k, fun g q => (h.2.1 g q).lh k, fun _ _ => o.lo h.1.size, fun g => (h.2.2.2 g).lh k⟩
theorem JP.J.app {u v : Value} (h : j.J L vs w) (ho : Own w j.w0.heap.size j.t8 1 u j.xs.length (bv j.xs)) (o : Own w' j.w0.heap.size j.t8 1 v (j.xs.length + j.ys.length) (bv (j.xs ++ j.ys))) (k : Keep (Eng.vblk u) w w') : j.J (updL L 4) (updV vs 4 v) w' :=
 ⟨h.1.new k (fun x hx => .inl (ho.blk x hx).1), (fun _ g => absurd (show true = false from g) (by decide)), (fun _ g => absurd (show true = false from g) (by decide)), fun _ => o⟩
end
end Go.Eng
namespace Go.Proofs.YtjfmmoonpdifcaaDoor.W
open Go Go.Eng Go.Byt
theorem gN {b n s : Int} (hb : 0 ≤ b) (h0 : 0 ≤ n) (h1 : n / 2 ^ b.toNat = 0) : numB b n s = be n s.toNat := by
 have e : numE b n = 0 := by unfold numE; rw [if_neg (by omega), if_neg (by omega)]
 unfold numB; rw [if_pos e]
theorem la (n : Int) : be n 1 = [byteAt n 0] := by simp [be]
theorem ee {a : List UInt8} (h : a.length ≤ 65536) : joinB [a] = vec a := by
 unfold joinB fU
 simp only [List.flatMap_cons, List.flatMap_nil, List.append_nil]; rw [if_pos h]
theorem eV {a : List UInt8} (h : a.length ≤ 65536) : (joinB [a]).length ≤ a.length + 8 := by
 rw [ee h]; exact Nat.le_trans (cn a) (by omega)
theorem l4 {x : Fm} (h : cOk x = true) : (((((joinB [x.gs] ++ be x.ep 8) ++ [byteAt x.fr 0]) ++ (if x.fr = 1 then be x.lf 4 else [])) ++ joinB [x.ms]) ++ [byteAt x.kd 0]) ++ joinB [x.bs] = cB x := by
 have hl := gR h
 have hk := gS.1 h
 have e8 : bitsOf 8 = 62 := rfl
 have e4 : bitsOf 4 = 32 := rfl
 have e1 : bitsOf 1 = 8 := rfl
 have p62 : (2 : Int) ^ (62 : Int).toNat = 4611686018427387904 := rfl
 have p32 : (2 : Int) ^ (32 : Int).toNat = 4294967296 := rfl
 have p8 : (2 : Int) ^ (8 : Int).toNat = 256 := rfl
 have hlf : (if x.fr = 1 then numB (bitsOf 4) x.lf 4 else []) = (if x.fr = 1 then be x.lf 4 else []) := by
   by_cases hf : x.fr = 1
   · rw [if_pos hf, if_pos hf, gN (by rw [e4]; decide) (by omega) (by rw [e4, p32]; omega)]; rfl
   · rw [if_neg hf, if_neg hf]
 unfold cB cBytes
 rw [gW hl.1, gW hl.2.1, gW hl.2.2, hlf, gN (n := x.ep) (by rw [e8]; decide) (by omega) (by rw [e8, p62]; omega), gN (n := x.fr) (by rw [e1]; decide) (by omega) (by rw [e1, p8]; omega),
   gN (n := x.kd) (by rw [e1]; decide) (by omega) (by rw [e1, p8]; omega), ee hl.1, ee hl.2.1, ee hl.2.2]
 rw [show (1 : Int).toNat = 1 from rfl, la, la]
 simp only [List.flatten_cons, List.flatten_nil, List.append_assoc, List.append_nil]; rfl
theorem cV {w : World} {lo : Nat} {v : Value} {xs ys zs : List UInt8} (h : Own w lo 5 1 v (xs.length + ys.length) (bv (xs ++ ys))) (e : xs ++ ys = zs) : OwnB w lo v zs := by
 subst e; unfold OwnB; rw [List.length_append]; exact h
theorem jg (g m b : Value) (x : Fm) (w : World) (hg : RdB w g x.gs) (hm : RdB w m x.ms) (hb : RdB w b x.bs) (hok : cOk x = true) : Rets Tryd.prog 29 [.agg [g, .int .i64 x.ep, .int .i64 x.fr, .int .i64 x.lf, m, .int .i64 x.kd, b].toArray] w (fun u w' => OwnB w' w.heap.size u (cB x) ∧ Keep [] w w') := by
  have hB : Keep [] w w := Keep.refl _ _
  obtain ⟨n1, n2, n3⟩ := gR hok
  have m1 := eV n1
  have m2 := eV n2
  have m3 := eV n3
  have m4 : (be x.ep (8 : Int).toNat).length = 8 := bx _ _
  have m5 : (be x.lf (4 : Int).toNat).length = 4 := bx _ _
  have m6 : [byteAt x.fr 0].length = 1 := rfl
  have m7 : [byteAt x.kd 0].length = 1 := rfl
  refine ad Tryd.func29 rfl (by decide) Tryd.ntmps29 rfl (fun fin _ hfin => ?_)
  refine aY ?_
  refine aX ?_
  refine ah (bz (cs := [g, .int .i64 x.ep, .int .i64 x.fr, .int .i64 x.lf, m, .int .i64 x.kd, b]) rfl rfl) rfl ?_
  rintro _ w1 ⟨b1, rfl, eb1, hb1, k1, z1⟩
  have ge_b1 : w.heap.size ≤ b1 := by have := hB.size; omega
  replace hB := hB.trans k1
  clear eb1 z1
  refine oga rfl rfl ?_
  refine aZ ?_
  refine aY ?_
  have ltb1 := hb1.lt
  refine jP 7 mixed [(1, _), (0, _), (2, _)] (fun jj v W => match jj with | 0 => v = .pointer (some ⟨b1, 0, none⟩) | 1 => v = g | 2 => SlL W w1.heap.size 22 v [x.gs] | 3 => OwnB W w1.heap.size v (joinB [x.gs]) | 4 => v = .pointer (some ⟨b1, 1, none⟩) | 5 => v = .int .i64 x.ep | 6 => OwnB W w1.heap.size v (be x.ep (8 : Int).toNat) | _ => True) ⟨rfl, rfl, rfl, trivial⟩ (by decide) (by decide) rfl ?_ ?_ ?_
  · intro jj v W W' h k
    match jj, h with
    | 0, h => exact h
    | 1, h => exact h
    | 2, h => exact h.lh k
    | 3, h => exact h.lh k
    | 4, h => exact h
    | 5, h => exact h
    | 6, h => exact h.lh k
    | _ + 7, _ => trivial
  · refine ⟨?_, ?_, ?_, ?_, ?_, ?_, ?_, trivial⟩
    · refine ⟨[], rfl, ?_⟩; rintro W1 hk vs hd
      replace hb1 := hb1.lh hk
      replace hB := hB.trans hk
      refine ⟨true, fun a _ => rfl, fun _ => ?_, fun h => by cases h⟩
      refine a6 [(1, _)] ⟨rfl, trivial⟩ ?_
      refine (Gives.does (aj 0 aB rfl az (by decide) rfl rfl)).mono ?_
      rintro v W2 ⟨rfl, rfl⟩
      exact ⟨Keep.refl _ _, rfl⟩
    · refine ⟨[0], rfl, ?_⟩; rintro W1 hk vs hd
      have d0 : (vs 0) = .pointer (some ⟨b1, 0, none⟩) := hd 0 (by decide)
      replace hb1 := hb1.lh hk
      replace hB := hB.trans hk
      refine ⟨true, fun a _ => rfl, fun _ => ?_, fun h => by cases h⟩
      refine a6 [(4, .pointer (some ⟨b1, 0, none⟩))] ⟨congrArg some d0, trivial⟩ ?_
      refine (Gives.does (ac ba rfl hb1 rfl)).mono ?_
      rintro v W2 ⟨rfl, rfl⟩
      exact ⟨Keep.refl _ _, rfl⟩
    · refine ⟨[1], rfl, ?_⟩; rintro W1 hk vs hd
      have d1 : (vs 1) = g := hd 1 (by decide)
      replace hb1 := hb1.lh hk
      replace hB := hB.trans hk
      refine ⟨true, fun a _ => rfl, fun _ => ?_, fun h => by cases h⟩
      refine a6 [(5, g)] ⟨congrArg some d1, trivial⟩ ?_
      refine (dG (m := 1) (ls := [x.gs]) (xs := [.tmp 5]) (us := [_]) aJ az rfl rfl (bA (by first | exact Rd.nil _ _ | exact (by first | assumption | exact Own.rd (by assumption) | exact Rd.lh (by assumption) hB | exact Own.rd (Own.lh (by assumption) hB))) (bt _)) rfl rfl).mono ?_
      rintro v W2 ⟨o1, k1⟩; exact ⟨k1, o1.lo hk.size⟩
    · refine ⟨[2], rfl, ?_⟩; rintro W1 hk vs hd
      have d2 : SlL W1 w1.heap.size 22 (vs 2) [x.gs] := hd 2 (by decide)
      replace hb1 := hb1.lh hk
      replace hB := hB.trans hk
      refine ⟨true, fun a _ => rfl, fun _ => ?_, fun h => by cases h⟩
      refine a6 [(6, vs 2)] ⟨rfl, trivial⟩ ?_
      refine (a7 (vs := [_]) rfl (dX _ [x.gs] _ _ (by assumption) (by omega))).mono ?_
      rintro v W2 ⟨o1, k1⟩; exact ⟨k1, o1.lo hk.size⟩
    · refine ⟨[], rfl, ?_⟩; rintro W1 hk vs hd
      replace hb1 := hb1.lh hk
      replace hB := hB.trans hk
      refine ⟨true, fun a _ => rfl, fun _ => ?_, fun h => by cases h⟩
      refine a6 [(1, _)] ⟨rfl, trivial⟩ ?_
      refine (Gives.does (aj 1 aB rfl bJ (by decide) rfl rfl)).mono ?_
      rintro v W2 ⟨rfl, rfl⟩
      exact ⟨Keep.refl _ _, rfl⟩
    · refine ⟨[4], rfl, ?_⟩; rintro W1 hk vs hd
      have d4 : (vs 4) = .pointer (some ⟨b1, 1, none⟩) := hd 4 (by decide)
      replace hb1 := hb1.lh hk
      replace hB := hB.trans hk
      refine ⟨true, fun a _ => rfl, fun _ => ?_, fun h => by cases h⟩
      refine a6 [(8, .pointer (some ⟨b1, 1, none⟩))] ⟨congrArg some d4, trivial⟩ ?_
      refine (Gives.does (ac bZ rfl hb1 rfl)).mono ?_
      rintro v W2 ⟨rfl, rfl⟩
      exact ⟨Keep.refl _ _, rfl⟩
    · refine ⟨[5], rfl, ?_⟩; rintro W1 hk vs hd
      have d5 : (vs 5) = .int .i64 x.ep := hd 5 (by decide)
      replace hb1 := hb1.lh hk
      replace hB := hB.trans hk
      refine ⟨true, fun a _ => rfl, fun _ => ?_, fun h => by cases h⟩
      refine a6 [(9, .int .i64 x.ep)] ⟨congrArg some d5, trivial⟩ ?_
      refine (a7 (vs := [_, _]) rfl (dz x.ep 8 (by decide) _)).mono ?_
      rintro v W2 ⟨o1, k1⟩; exact ⟨k1, o1.lo hk.size⟩
  rintro w2 k2 vs hv
  replace hb1 := hb1.lh k2
  replace hB := hB.trans k2
  have e7 : OwnB w2 w1.heap.size (vs 3) (joinB [x.gs]) := hv 3 (by decide) rfl
  have e10 : OwnB w2 w1.heap.size (vs 6) (be x.ep (8 : Int).toNat) := hv 6 (by decide) rfl
  refine dR [(7, vs 3), (10, vs 6), (1, _), (0, _), (2, _)] ⟨rfl, rfl, rfl, rfl, rfl, trivial⟩ ?_
  have o1 := e7
  have o2 := e10
  replace o1 := o1.lo (show b1 + 1 ≤ _ from by omega)
  have lt_o3 := hb1.lt
  refine ah (bS aA bu rfl o1 rfl (show RdB _ _ _ from o2.rd) (by first | omega | (simp only [List.length_append] at *; omega)) (by omega)) rfl ?_
  rintro v1 w3 ⟨o3, k3, lb1, _⟩
  replace hB := hB.new k3 (fun x hx => .inl (Nat.le_trans ge_b1 (Nat.le_of_lt (o1.blk x hx).1)))
  replace hb1 := hb1.keep k3 (fun hm => absurd (o1.blk _ hm).1 (Nat.lt_irrefl _))
  replace o3 := cV (zs := (joinB [x.gs] ++ be x.ep (8 : Int).toNat)) o3 rfl
  have ln_o3 := congrArg List.length (rfl : (joinB [x.gs] ++ be x.ep (8 : Int).toNat) = (joinB [x.gs] ++ be x.ep (8 : Int).toNat))
  simp only [List.length_append] at ln_o3
  refine oga rfl rfl ?_
  refine aZ ?_
  refine aY ?_
  refine aX ?_
  refine ogm rfl rfl ?_
  refine a4 (aj 2 aB rfl bJ (by decide) rfl rfl) rfl ?_
  refine a4 (ac bZ rfl hb1 rfl) rfl ?_
  refine ow_gx (e' := x.fr % 256) (lo := 0) (hi := 255) (dY (by rw [aK]; rfl) aI rfl) (fS rfl _) (In.wk (lP _ (by decide)) rfl) rfl (fun z2 h1 r1 => ?_)
  refine ah (dA (m := 1) (xs := [.tmp 15]) (vs := [_]) aA bu (by decide) rfl rfl rfl (by simp only [List.forall_mem_cons]; exact ⟨rfl, fun v hv => by cases hv⟩) (by decide)) rfl ?_
  rintro v2 w4 ⟨o4, _, _, k4, _⟩
  have gl_o4 := hB.size
  have gl_o4 := hB.size
  replace hb1 := hb1.lh k4
  replace o3 := o3.lh k4
  replace hB := hB.trans k4
  replace o4 : OwnB _ _ _ [byteAt x.fr 0] := eU o4 (by have h9 : _ = x.fr % 256 := ‹Eqn _ (x.fr % 256)›; rw [cF, show (2 : Int) ^ (8 * 0) = 1 from rfl]; omega)
  have lt_o5 := hb1.lt
  refine ah (bS aA bu rfl o3 rfl (show RdB _ _ _ from o4.rd) (by first | omega | (simp only [List.length_append] at *; omega)) (by omega)) rfl ?_
  rintro v3 w5 ⟨o5, k5, lb2, _⟩
  replace hB := hB.new k5 (fun x hx => .inl (Nat.le_trans ge_b1 (Nat.le_of_lt (o3.blk x hx).1)))
  replace hb1 := hb1.keep k5 (fun hm => absurd (o3.blk _ hm).1 (Nat.lt_irrefl _))
  replace o5 := cV (zs := ((joinB [x.gs] ++ be x.ep (8 : Int).toNat) ++ [byteAt x.fr 0])) o5 rfl
  have ln_o5 := congrArg List.length (rfl : ((joinB [x.gs] ++ be x.ep (8 : Int).toNat) ++ [byteAt x.fr 0]) = ((joinB [x.gs] ++ be x.ep (8 : Int).toNat) ++ [byteAt x.fr 0]))
  simp only [List.length_append] at ln_o5
  refine oga rfl rfl ?_
  refine aZ ?_
  refine ab [(1, _), (3, _)] ⟨rfl, rfl, trivial⟩ ?_
  refine aY ?_
  refine aY ?_
  refine aX ?_
  refine a4 (aj 2 aB rfl bJ (by decide) rfl rfl) rfl ?_
  refine a4 (ac bZ rfl hb1 rfl) rfl ?_
  refine a4 (bF rfl rfl) rfl ?_
  refine aZ ?_
  refine ar rfl (fun hc1 => ?_) (fun hc1 => ?_)
  · -- yes
    refine aX ?_
    refine ogm rfl rfl ?_
    refine a4 (aj 3 aB rfl bJ (by decide) rfl rfl) rfl ?_
    refine a4 (ac bZ rfl hb1 rfl) rfl ?_
    refine ah (a7 (vs := [_, _]) rfl (dz x.lf 4 (by decide) _)) rfl ?_
    rintro v4 w6 ⟨o6, k6⟩
    have gl_o6 := hB.size
    replace hb1 := hb1.lh k6
    replace o5 := o5.lh k6
    replace hB := hB.trans k6
    have lt_o7 := hb1.lt
    refine ah (bS aA bu rfl o5 rfl (show RdB _ _ _ from o6.rd) (by first | omega | (simp only [List.length_append] at *; omega)) (by omega)) rfl ?_
    rintro v5 w7 ⟨o7, k7, lb3, _⟩
    replace hB := hB.new k7 (fun x hx => .inl (Nat.le_trans ge_b1 (Nat.le_of_lt (o5.blk x hx).1)))
    replace hb1 := hb1.keep k7 (fun hm => absurd (o5.blk _ hm).1 (Nat.lt_irrefl _))
    replace o7 := cV (zs := (((joinB [x.gs] ++ be x.ep (8 : Int).toNat) ++ [byteAt x.fr 0]) ++ be x.lf (4 : Int).toNat)) o7 rfl
    have ln_o7 := congrArg List.length (rfl : (((joinB [x.gs] ++ be x.ep (8 : Int).toNat) ++ [byteAt x.fr 0]) ++ be x.lf (4 : Int).toNat) = (((joinB [x.gs] ++ be x.ep (8 : Int).toNat) ++ [byteAt x.fr 0]) ++ be x.lf (4 : Int).toNat))
    simp only [List.length_append] at ln_o7
    refine oga rfl rfl ?_
    refine aZ ?_
    refine aY ?_
    have hlt9 : ∀ y, y ∈ vblk v5 → y < w7.heap.size := fun y hy => (o7.blk y hy).2
    have hlo9 := hb1.lt
    refine fk 10 mixed [(1, _), (3, _), (18, _), (19, _), (20, _), (21, _), (22, _), (23, _), (24, _), (25, _)] (fun jj v => match jj with | 0 => v = v5 | 1 => v = .pointer (some ⟨b1, 0 + 4, none⟩) | 2 => v = m | 6 => v = .pointer (some ⟨b1, 0 + 5, none⟩) | 7 => v = .int .i64 x.kd | 8 => v = .int .u8 (byteAt x.kd 0).toNat | _ => True) (JJ.J (JJ.mk w7 (b1 + 1) 5 22 v5 (((joinB [x.gs] ++ be x.ep (8 : Int).toNat) ++ [byteAt x.fr 0]) ++ be x.lf (4 : Int).toNat) (joinB [x.ms]) m (byteAt x.kd 0))) ⟨rfl, rfl, rfl, rfl, rfl, rfl, rfl, rfl, rfl, rfl, trivial⟩ (by decide) (by decide) rfl (fun vs => JJ.J_0 (j := (JJ.mk w7 (b1 + 1) 5 22 v5 (((joinB [x.gs] ++ be x.ep (8 : Int).toNat) ++ [byteAt x.fr 0]) ++ be x.lf (4 : Int).toNat) (joinB [x.ms]) m (byteAt x.kd 0))) o7 vs) (fun L vs vs' w' h hJ => hJ.same (fun h0 => h 3 h0 rfl) (fun h0 => h 4 h0 rfl) (fun h0 => h 5 h0 rfl) (fun h0 => h 9 h0 rfl)) ?_ ?_
    · refine ⟨?_, ?_, ?_, ?_, ?_, ?_, ?_, ?_, ?_, ?_, trivial⟩
      · refine ⟨[], rfl, ?_⟩; rintro L W1 vs hL0 hLd hJ hd
        have hk := hJ.1
        have hksz : w7.heap.size ≤ W1.heap.size := hk.size
        replace hb1 := hb1.keep hk (fun hm => by have h1 := (o7.blk _ hm).1; omega)
        replace hB := hB.new hk (fun y hy => .inl (Nat.le_trans ge_b1 (Nat.le_of_lt (o7.blk y hy).1)))
        refine ⟨true, fun a _ => rfl, fun _ => ?_, fun h => by cases h⟩
        refine a6 [(3, _)] ⟨rfl, trivial⟩ ?_
        refine (Gives.does (av rfl)).mono ?_
        rintro v W2 ⟨rfl, rfl⟩; exact ⟨rfl, hJ⟩
      · refine ⟨[], rfl, ?_⟩; rintro L W1 vs hL0 hLd hJ hd
        have hk := hJ.1
        have hksz : w7.heap.size ≤ W1.heap.size := hk.size
        replace hb1 := hb1.keep hk (fun hm => by have h1 := (o7.blk _ hm).1; omega)
        replace hB := hB.new hk (fun y hy => .inl (Nat.le_trans ge_b1 (Nat.le_of_lt (o7.blk y hy).1)))
        refine ⟨true, fun a _ => rfl, fun _ => ?_, fun h => by cases h⟩
        refine a6 [(1, _)] ⟨rfl, trivial⟩ ?_
        refine (Gives.does (ay aB rfl az (by decide) rfl)).mono ?_
        rintro v W2 ⟨rfl, rfl⟩; exact ⟨rfl, hJ⟩
      · refine ⟨[1], rfl, ?_⟩; rintro L W1 vs hL0 hLd hJ hd
        have d1 : vs 1 = .pointer (some ⟨b1, 0 + 4, none⟩) := hd 1 (by decide)
        have hk := hJ.1
        have hksz : w7.heap.size ≤ W1.heap.size := hk.size
        replace hb1 := hb1.keep hk (fun hm => by have h1 := (o7.blk _ hm).1; omega)
        replace hB := hB.new hk (fun y hy => .inl (Nat.le_trans ge_b1 (Nat.le_of_lt (o7.blk y hy).1)))
        refine ⟨true, fun a _ => rfl, fun _ => ?_, fun h => by cases h⟩
        refine a6 [(27, .pointer (some ⟨b1, 0 + 4, none⟩))] ⟨congrArg some d1, trivial⟩ ?_
        refine (Gives.does (ac ba rfl hb1 rfl)).mono ?_
        rintro v W2 ⟨rfl, rfl⟩; exact ⟨rfl, hJ⟩
      · refine ⟨[2], rfl, ?_⟩; rintro L W1 vs hL0 hLd hJ hd
        have d2 : vs 2 = m := hd 2 (by decide)
        have hk := hJ.1
        have hksz : w7.heap.size ≤ W1.heap.size := hk.size
        replace hb1 := hb1.keep hk (fun hm => by have h1 := (o7.blk _ hm).1; omega)
        replace hB := hB.new hk (fun y hy => .inl (Nat.le_trans ge_b1 (Nat.le_of_lt (o7.blk y hy).1)))
        refine ⟨true, fun a _ => rfl, fun _ => ?_, fun h => by cases h⟩
        refine a6 [(28, m)] ⟨congrArg some d2, trivial⟩ ?_
        refine (dA (m := 1) (xs := [.tmp 28]) (vs := [m]) aJ az (by decide) rfl rfl rfl (by intro v hv; rw [List.mem_singleton] at hv; subst hv; rw [Rd.cells hm]; rfl) (by decide)).mono ?_
        rintro v W2 ⟨o1, _, _, k1, _⟩; exact ⟨trivial, hJ.bs3 k1 (by have hc9 := Rd.cells hm; simpa [hc9] using o1)⟩
      · refine ⟨[3], rfl, ?_⟩; rintro L W1 vs hL0 hLd hJ hd
        have hk := hJ.1
        have hksz : w7.heap.size ≤ W1.heap.size := hk.size
        replace hb1 := hb1.keep hk (fun hm => by have h1 := (o7.blk _ hm).1; omega)
        replace hB := hB.new hk (fun y hy => .inl (Nat.le_trans ge_b1 (Nat.le_of_lt (o7.blk y hy).1)))
        refine ⟨true, fun a _ => rfl, fun _ => ?_, fun h => by cases h⟩
        refine a6 [(29, vs 3)] ⟨rfl, trivial⟩ ?_
        refine (a7 (vs := [_]) rfl (dX _ [x.ms] _ _ ⟨[m], rfl, bA (Rd.lh hm hB) (bt _), hJ.2.2.1 (hLd 3 (by decide))⟩ (by omega))).mono ?_
        rintro v W2 ⟨o1, k1⟩; exact ⟨trivial, hJ.c4 k1 o1⟩
      · refine ⟨[0, 4], rfl, ?_⟩; rintro L W1 vs hL0 hLd hJ hd
        have d0 : vs 0 = v5 := hd 0 (by decide)
        have hk := hJ.1
        have hksz : w7.heap.size ≤ W1.heap.size := hk.size
        replace hb1 := hb1.keep hk (fun hm => by have h1 := (o7.blk _ hm).1; omega)
        replace hB := hB.new hk (fun y hy => .inl (Nat.le_trans ge_b1 (Nat.le_of_lt (o7.blk y hy).1)))
        refine ⟨true, fun a _ => rfl, fun _ => ?_, fun h => by cases h⟩
        refine a6 [(26, v5), (30, vs 4)] ⟨congrArg some d0, rfl, trivial⟩ ?_
        refine (bS aA bu rfl (hJ.2.1 hL0) rfl (hJ.2.2.2.1 (hLd 4 (by decide))).rd (by show List.length _ + List.length _ ≤ _; simp only [List.length_append]; omega) (by show b1 + 1 ≤ _; omega)).mono ?_
        rintro v W2 ⟨o1, k1, lb, _⟩; exact ⟨trivial, hJ.app hlt9 o1 k1 lb⟩
      · refine ⟨[], rfl, ?_⟩; rintro L W1 vs hL0 hLd hJ hd
        have hk := hJ.1
        have hksz : w7.heap.size ≤ W1.heap.size := hk.size
        replace hb1 := hb1.keep hk (fun hm => by have h1 := (o7.blk _ hm).1; omega)
        replace hB := hB.new hk (fun y hy => .inl (Nat.le_trans ge_b1 (Nat.le_of_lt (o7.blk y hy).1)))
        refine ⟨true, fun a _ => rfl, fun _ => ?_, fun h => by cases h⟩
        refine a6 [(1, _)] ⟨rfl, trivial⟩ ?_
        refine (Gives.does (ay aB rfl bJ (by decide) rfl)).mono ?_
        rintro v W2 ⟨rfl, rfl⟩; exact ⟨rfl, hJ⟩
      · refine ⟨[6], rfl, ?_⟩; rintro L W1 vs hL0 hLd hJ hd
        have d6 : vs 6 = .pointer (some ⟨b1, 0 + 5, none⟩) := hd 6 (by decide)
        have hk := hJ.1
        have hksz : w7.heap.size ≤ W1.heap.size := hk.size
        replace hb1 := hb1.keep hk (fun hm => by have h1 := (o7.blk _ hm).1; omega)
        replace hB := hB.new hk (fun y hy => .inl (Nat.le_trans ge_b1 (Nat.le_of_lt (o7.blk y hy).1)))
        refine ⟨true, fun a _ => rfl, fun _ => ?_, fun h => by cases h⟩
        refine a6 [(32, .pointer (some ⟨b1, 0 + 5, none⟩))] ⟨congrArg some d6, trivial⟩ ?_
        refine (Gives.does (ac bZ rfl hb1 rfl)).mono ?_
        rintro v W2 ⟨rfl, rfl⟩; exact ⟨rfl, hJ⟩
      · refine ⟨[7], rfl, ?_⟩; rintro L W1 vs hL0 hLd hJ hd
        have d7 : vs 7 = .int .i64 x.kd := hd 7 (by decide)
        have hk := hJ.1
        have hksz : w7.heap.size ≤ W1.heap.size := hk.size
        replace hb1 := hb1.keep hk (fun hm => by have h1 := (o7.blk _ hm).1; omega)
        replace hB := hB.new hk (fun y hy => .inl (Nat.le_trans ge_b1 (Nat.le_of_lt (o7.blk y hy).1)))
        refine ⟨true, fun a _ => rfl, fun _ => ?_, fun h => by cases h⟩
        refine a6 [(33, .int .i64 x.kd)] ⟨congrArg some d7, trivial⟩ ?_
        have e8 : (IntKind.u8.wrap x.kd) = ((byteAt x.kd 0).toNat : Int) := by rw [cF, IntKind.wrap_u8]; simp
        refine (Gives.does (dY (by rw [aK]; rfl) aI rfl)).mono ?_
        rintro v W2 ⟨rfl, rfl⟩; exact ⟨by show Value.int _ _ = _; rw [e8], hJ⟩
      · refine ⟨[8], rfl, ?_⟩; rintro L W1 vs hL0 hLd hJ hd
        have d8 : vs 8 = .int .u8 (byteAt x.kd 0).toNat := hd 8 (by decide)
        have hk := hJ.1
        have hksz : w7.heap.size ≤ W1.heap.size := hk.size
        replace hb1 := hb1.keep hk (fun hm => by have h1 := (o7.blk _ hm).1; omega)
        replace hB := hB.new hk (fun y hy => .inl (Nat.le_trans ge_b1 (Nat.le_of_lt (o7.blk y hy).1)))
        refine ⟨true, fun a _ => rfl, fun _ => ?_, fun h => by cases h⟩
        refine a6 [(34, .int .u8 (byteAt x.kd 0).toNat)] ⟨congrArg some d8, trivial⟩ ?_
        refine (dA (m := 1) (xs := [.tmp 34]) (vs := [_]) aA bu (by decide) rfl rfl rfl (by intro v hv; rw [List.mem_singleton] at hv; subst hv; rfl) (by decide)).mono ?_
        rintro v W2 ⟨o1, _, _, k1, _⟩; exact ⟨trivial, hJ.bs9 k1 o1⟩
    rintro w8 L hL vs hJ hS
    have kJ := hJ.1
    have zkJ : w7.heap.size ≤ _ := kJ.size
    have o8 : OwnB w8 (b1 + 1) (vs 5) ((((joinB [x.gs] ++ be x.ep (8 : Int).toNat) ++ [byteAt x.fr 0]) ++ be x.lf (4 : Int).toNat) ++ joinB [x.ms]) := cV (hJ.2.2.2.2.1 (hL 5 (by decide))).1 rfl
    have o9 : OwnB w8 w7.heap.size (vs 9) [byteAt x.kd 0] := hJ.2.2.2.2.2 (hL 9 (by decide))
    have ln_o8 := congrArg List.length (rfl : (((joinB [x.gs] ++ be x.ep (8 : Int).toNat) ++ [byteAt x.fr 0]) ++ be x.lf (4 : Int).toNat) ++ joinB [x.ms] = (((joinB [x.gs] ++ be x.ep (8 : Int).toNat) ++ [byteAt x.fr 0]) ++ be x.lf (4 : Int).toNat) ++ joinB [x.ms])
    simp only [List.length_append] at ln_o8
    replace hb1 := hb1.keep kJ (fun hm => by have h1 := (o7.blk _ hm).1; omega)
    replace hB := hB.new kJ (fun y hy => .inl (Nat.le_trans ge_b1 (Nat.le_of_lt (o7.blk y hy).1)))
    refine dR [(31, vs 5), (35, vs 9), (1, _), (3, _), (18, _), (19, _), (20, _), (21, _), (22, _), (23, _), (24, _), (25, _)] ⟨rfl, rfl, rfl, rfl, rfl, rfl, rfl, rfl, rfl, rfl, rfl, rfl, trivial⟩ ?_
    have lt_o10 := hb1.lt
    refine ah (bS aA bu rfl o8 rfl (show RdB _ _ _ from o9.rd) (by first | omega | (simp only [List.length_append] at *; omega)) (by omega)) rfl ?_
    rintro v6 w9 ⟨o10, k8, lb4, _⟩
    replace hB := hB.new k8 (fun x hx => .inl (Nat.le_trans ge_b1 (Nat.le_of_lt (o8.blk x hx).1)))
    replace hb1 := hb1.keep k8 (fun hm => absurd (o8.blk _ hm).1 (Nat.lt_irrefl _))
    replace o10 := cV (zs := (((((joinB [x.gs] ++ be x.ep (8 : Int).toNat) ++ [byteAt x.fr 0]) ++ be x.lf (4 : Int).toNat) ++ joinB [x.ms]) ++ [byteAt x.kd 0])) o10 rfl
    have ln_o10 := congrArg List.length (rfl : (((((joinB [x.gs] ++ be x.ep (8 : Int).toNat) ++ [byteAt x.fr 0]) ++ be x.lf (4 : Int).toNat) ++ joinB [x.ms]) ++ [byteAt x.kd 0]) = (((((joinB [x.gs] ++ be x.ep (8 : Int).toNat) ++ [byteAt x.fr 0]) ++ be x.lf (4 : Int).toNat) ++ joinB [x.ms]) ++ [byteAt x.kd 0]))
    simp only [List.length_append] at ln_o10
    refine oga rfl rfl ?_
    refine aZ ?_
    refine ab [(1, _), (3, _)] ⟨rfl, rfl, trivial⟩ ?_
    refine aY ?_
    refine aX ?_
    refine ogm rfl rfl ?_
    refine a4 (aj 6 aB rfl az (by decide) rfl rfl) rfl ?_
    refine a4 (ac ba rfl hb1 rfl) rfl ?_
    refine ah (dG (m := 1) (ls := [x.bs]) (xs := [.tmp 39]) (us := [_]) aJ az rfl rfl (bA (by first | exact Rd.nil _ _ | exact (by first | assumption | exact Own.rd (by assumption) | exact Rd.lh (by assumption) hB | exact Own.rd (Own.lh (by assumption) hB))) (bt _)) rfl rfl) rfl ?_
    rintro v7 w10 ⟨sl1, k9⟩
    replace hb1 := hb1.lh k9
    replace o10 := o10.lh k9
    replace hB := hB.trans k9
    refine ah (a7 (vs := [_]) rfl (dX _ [x.bs] _ _ (by assumption) (by omega))) rfl ?_
    rintro v8 w11 ⟨o12, k10⟩
    have gl_o12 := hB.size
    replace hb1 := hb1.lh k10
    replace o10 := o10.lh k10
    replace sl1 := sl1.lh k10
    replace hB := hB.trans k10
    have lt_o13 := hb1.lt
    refine ah (bS aA bu rfl o10 rfl (show RdB _ _ _ from o12.rd) (by first | omega | (simp only [List.length_append] at *; omega)) (by omega)) rfl ?_
    rintro v9 w12 ⟨o13, k11, lb5, _⟩
    replace hB := hB.new k11 (fun x hx => .inl (Nat.le_trans ge_b1 (Nat.le_of_lt (o10.blk x hx).1)))
    replace hb1 := hb1.keep k11 (fun hm => absurd (o10.blk _ hm).1 (Nat.lt_irrefl _))
    replace o13 := cV (zs := ((((((joinB [x.gs] ++ be x.ep (8 : Int).toNat) ++ [byteAt x.fr 0]) ++ be x.lf (4 : Int).toNat) ++ joinB [x.ms]) ++ [byteAt x.kd 0]) ++ joinB [x.bs])) o13 rfl
    have ln_o13 := congrArg List.length (rfl : ((((((joinB [x.gs] ++ be x.ep (8 : Int).toNat) ++ [byteAt x.fr 0]) ++ be x.lf (4 : Int).toNat) ++ joinB [x.ms]) ++ [byteAt x.kd 0]) ++ joinB [x.bs]) = ((((((joinB [x.gs] ++ be x.ep (8 : Int).toNat) ++ [byteAt x.fr 0]) ++ be x.lf (4 : Int).toNat) ++ joinB [x.ms]) ++ [byteAt x.kd 0]) ++ joinB [x.bs]))
    simp only [List.length_append] at ln_o13
    refine oga rfl rfl ?_
    refine aZ ?_
    refine af hfin Tryd.results29 rfl ?_
    have e9 := l4 hok
    first | rw [if_pos (by assumption)] at e9 | rw [if_neg (by assumption), List.append_nil] at e9
    rw [← e9]
    exact ⟨(show OwnB _ _ _ _ from o13).lo (by omega), hB⟩
  · -- no
    refine a8 ?_
    refine aY ?_
    have hlt9 : ∀ y, y ∈ vblk v3 → y < w5.heap.size := fun y hy => (o5.blk y hy).2
    have hlo9 := hb1.lt
    refine fk 10 mixed [(1, _), (3, _), (18, _), (19, _), (20, _)] (fun jj v => match jj with | 0 => v = v3 | 1 => v = .pointer (some ⟨b1, 0 + 4, none⟩) | 2 => v = m | 6 => v = .pointer (some ⟨b1, 0 + 5, none⟩) | 7 => v = .int .i64 x.kd | 8 => v = .int .u8 (byteAt x.kd 0).toNat | _ => True) (JJ.J (JJ.mk w5 (b1 + 1) 5 22 v3 ((joinB [x.gs] ++ be x.ep (8 : Int).toNat) ++ [byteAt x.fr 0]) (joinB [x.ms]) m (byteAt x.kd 0))) ⟨rfl, rfl, rfl, rfl, rfl, trivial⟩ (by decide) (by decide) rfl (fun vs => JJ.J_0 (j := (JJ.mk w5 (b1 + 1) 5 22 v3 ((joinB [x.gs] ++ be x.ep (8 : Int).toNat) ++ [byteAt x.fr 0]) (joinB [x.ms]) m (byteAt x.kd 0))) o5 vs) (fun L vs vs' w' h hJ => hJ.same (fun h0 => h 3 h0 rfl) (fun h0 => h 4 h0 rfl) (fun h0 => h 5 h0 rfl) (fun h0 => h 9 h0 rfl)) ?_ ?_
    · refine ⟨?_, ?_, ?_, ?_, ?_, ?_, ?_, ?_, ?_, ?_, trivial⟩
      · refine ⟨[], rfl, ?_⟩; rintro L W1 vs hL0 hLd hJ hd
        have hk := hJ.1
        have hksz : w5.heap.size ≤ W1.heap.size := hk.size
        replace hb1 := hb1.keep hk (fun hm => by have h1 := (o5.blk _ hm).1; omega)
        replace hB := hB.new hk (fun y hy => .inl (Nat.le_trans ge_b1 (Nat.le_of_lt (o5.blk y hy).1)))
        refine ⟨true, fun a _ => rfl, fun _ => ?_, fun h => by cases h⟩
        refine a6 [(3, _)] ⟨rfl, trivial⟩ ?_
        refine (Gives.does (av rfl)).mono ?_
        rintro v W2 ⟨rfl, rfl⟩; exact ⟨rfl, hJ⟩
      · refine ⟨[], rfl, ?_⟩; rintro L W1 vs hL0 hLd hJ hd
        have hk := hJ.1
        have hksz : w5.heap.size ≤ W1.heap.size := hk.size
        replace hb1 := hb1.keep hk (fun hm => by have h1 := (o5.blk _ hm).1; omega)
        replace hB := hB.new hk (fun y hy => .inl (Nat.le_trans ge_b1 (Nat.le_of_lt (o5.blk y hy).1)))
        refine ⟨true, fun a _ => rfl, fun _ => ?_, fun h => by cases h⟩
        refine a6 [(1, _)] ⟨rfl, trivial⟩ ?_
        refine (Gives.does (ay aB rfl az (by decide) rfl)).mono ?_
        rintro v W2 ⟨rfl, rfl⟩; exact ⟨rfl, hJ⟩
      · refine ⟨[1], rfl, ?_⟩; rintro L W1 vs hL0 hLd hJ hd
        have d1 : vs 1 = .pointer (some ⟨b1, 0 + 4, none⟩) := hd 1 (by decide)
        have hk := hJ.1
        have hksz : w5.heap.size ≤ W1.heap.size := hk.size
        replace hb1 := hb1.keep hk (fun hm => by have h1 := (o5.blk _ hm).1; omega)
        replace hB := hB.new hk (fun y hy => .inl (Nat.le_trans ge_b1 (Nat.le_of_lt (o5.blk y hy).1)))
        refine ⟨true, fun a _ => rfl, fun _ => ?_, fun h => by cases h⟩
        refine a6 [(27, .pointer (some ⟨b1, 0 + 4, none⟩))] ⟨congrArg some d1, trivial⟩ ?_
        refine (Gives.does (ac ba rfl hb1 rfl)).mono ?_
        rintro v W2 ⟨rfl, rfl⟩; exact ⟨rfl, hJ⟩
      · refine ⟨[2], rfl, ?_⟩; rintro L W1 vs hL0 hLd hJ hd
        have d2 : vs 2 = m := hd 2 (by decide)
        have hk := hJ.1
        have hksz : w5.heap.size ≤ W1.heap.size := hk.size
        replace hb1 := hb1.keep hk (fun hm => by have h1 := (o5.blk _ hm).1; omega)
        replace hB := hB.new hk (fun y hy => .inl (Nat.le_trans ge_b1 (Nat.le_of_lt (o5.blk y hy).1)))
        refine ⟨true, fun a _ => rfl, fun _ => ?_, fun h => by cases h⟩
        refine a6 [(28, m)] ⟨congrArg some d2, trivial⟩ ?_
        refine (dA (m := 1) (xs := [.tmp 28]) (vs := [m]) aJ az (by decide) rfl rfl rfl (by intro v hv; rw [List.mem_singleton] at hv; subst hv; rw [Rd.cells hm]; rfl) (by decide)).mono ?_
        rintro v W2 ⟨o1, _, _, k1, _⟩; exact ⟨trivial, hJ.bs3 k1 (by have hc9 := Rd.cells hm; simpa [hc9] using o1)⟩
      · refine ⟨[3], rfl, ?_⟩; rintro L W1 vs hL0 hLd hJ hd
        have hk := hJ.1
        have hksz : w5.heap.size ≤ W1.heap.size := hk.size
        replace hb1 := hb1.keep hk (fun hm => by have h1 := (o5.blk _ hm).1; omega)
        replace hB := hB.new hk (fun y hy => .inl (Nat.le_trans ge_b1 (Nat.le_of_lt (o5.blk y hy).1)))
        refine ⟨true, fun a _ => rfl, fun _ => ?_, fun h => by cases h⟩
        refine a6 [(29, vs 3)] ⟨rfl, trivial⟩ ?_
        refine (a7 (vs := [_]) rfl (dX _ [x.ms] _ _ ⟨[m], rfl, bA (Rd.lh hm hB) (bt _), hJ.2.2.1 (hLd 3 (by decide))⟩ (by omega))).mono ?_
        rintro v W2 ⟨o1, k1⟩; exact ⟨trivial, hJ.c4 k1 o1⟩
      · refine ⟨[0, 4], rfl, ?_⟩; rintro L W1 vs hL0 hLd hJ hd
        have d0 : vs 0 = v3 := hd 0 (by decide)
        have hk := hJ.1
        have hksz : w5.heap.size ≤ W1.heap.size := hk.size
        replace hb1 := hb1.keep hk (fun hm => by have h1 := (o5.blk _ hm).1; omega)
        replace hB := hB.new hk (fun y hy => .inl (Nat.le_trans ge_b1 (Nat.le_of_lt (o5.blk y hy).1)))
        refine ⟨true, fun a _ => rfl, fun _ => ?_, fun h => by cases h⟩
        refine a6 [(26, v3), (30, vs 4)] ⟨congrArg some d0, rfl, trivial⟩ ?_
        refine (bS aA bu rfl (hJ.2.1 hL0) rfl (hJ.2.2.2.1 (hLd 4 (by decide))).rd (by show List.length _ + List.length _ ≤ _; simp only [List.length_append]; omega) (by show b1 + 1 ≤ _; omega)).mono ?_
        rintro v W2 ⟨o1, k1, lb, _⟩; exact ⟨trivial, hJ.app hlt9 o1 k1 lb⟩
      · refine ⟨[], rfl, ?_⟩; rintro L W1 vs hL0 hLd hJ hd
        have hk := hJ.1
        have hksz : w5.heap.size ≤ W1.heap.size := hk.size
        replace hb1 := hb1.keep hk (fun hm => by have h1 := (o5.blk _ hm).1; omega)
        replace hB := hB.new hk (fun y hy => .inl (Nat.le_trans ge_b1 (Nat.le_of_lt (o5.blk y hy).1)))
        refine ⟨true, fun a _ => rfl, fun _ => ?_, fun h => by cases h⟩
        refine a6 [(1, _)] ⟨rfl, trivial⟩ ?_
        refine (Gives.does (ay aB rfl bJ (by decide) rfl)).mono ?_
        rintro v W2 ⟨rfl, rfl⟩; exact ⟨rfl, hJ⟩
      · refine ⟨[6], rfl, ?_⟩; rintro L W1 vs hL0 hLd hJ hd
        have d6 : vs 6 = .pointer (some ⟨b1, 0 + 5, none⟩) := hd 6 (by decide)
        have hk := hJ.1
        have hksz : w5.heap.size ≤ W1.heap.size := hk.size
        replace hb1 := hb1.keep hk (fun hm => by have h1 := (o5.blk _ hm).1; omega)
        replace hB := hB.new hk (fun y hy => .inl (Nat.le_trans ge_b1 (Nat.le_of_lt (o5.blk y hy).1)))
        refine ⟨true, fun a _ => rfl, fun _ => ?_, fun h => by cases h⟩
        refine a6 [(32, .pointer (some ⟨b1, 0 + 5, none⟩))] ⟨congrArg some d6, trivial⟩ ?_
        refine (Gives.does (ac bZ rfl hb1 rfl)).mono ?_
        rintro v W2 ⟨rfl, rfl⟩; exact ⟨rfl, hJ⟩
      · refine ⟨[7], rfl, ?_⟩; rintro L W1 vs hL0 hLd hJ hd
        have d7 : vs 7 = .int .i64 x.kd := hd 7 (by decide)
        have hk := hJ.1
        have hksz : w5.heap.size ≤ W1.heap.size := hk.size
        replace hb1 := hb1.keep hk (fun hm => by have h1 := (o5.blk _ hm).1; omega)
        replace hB := hB.new hk (fun y hy => .inl (Nat.le_trans ge_b1 (Nat.le_of_lt (o5.blk y hy).1)))
        refine ⟨true, fun a _ => rfl, fun _ => ?_, fun h => by cases h⟩
        refine a6 [(33, .int .i64 x.kd)] ⟨congrArg some d7, trivial⟩ ?_
        have e8 : (IntKind.u8.wrap x.kd) = ((byteAt x.kd 0).toNat : Int) := by rw [cF, IntKind.wrap_u8]; simp
        refine (Gives.does (dY (by rw [aK]; rfl) aI rfl)).mono ?_
        rintro v W2 ⟨rfl, rfl⟩; exact ⟨by show Value.int _ _ = _; rw [e8], hJ⟩
      · refine ⟨[8], rfl, ?_⟩; rintro L W1 vs hL0 hLd hJ hd
        have d8 : vs 8 = .int .u8 (byteAt x.kd 0).toNat := hd 8 (by decide)
        have hk := hJ.1
        have hksz : w5.heap.size ≤ W1.heap.size := hk.size
        replace hb1 := hb1.keep hk (fun hm => by have h1 := (o5.blk _ hm).1; omega)
        replace hB := hB.new hk (fun y hy => .inl (Nat.le_trans ge_b1 (Nat.le_of_lt (o5.blk y hy).1)))
        refine ⟨true, fun a _ => rfl, fun _ => ?_, fun h => by cases h⟩
        refine a6 [(34, .int .u8 (byteAt x.kd 0).toNat)] ⟨congrArg some d8, trivial⟩ ?_
        refine (dA (m := 1) (xs := [.tmp 34]) (vs := [_]) aA bu (by decide) rfl rfl rfl (by intro v hv; rw [List.mem_singleton] at hv; subst hv; rfl) (by decide)).mono ?_
        rintro v W2 ⟨o1, _, _, k1, _⟩; exact ⟨trivial, hJ.bs9 k1 o1⟩
    rintro w13 L hL vs hJ hS
    have kJ := hJ.1
    have zkJ : w5.heap.size ≤ _ := kJ.size
    have o14 : OwnB w13 (b1 + 1) (vs 5) (((joinB [x.gs] ++ be x.ep (8 : Int).toNat) ++ [byteAt x.fr 0]) ++ joinB [x.ms]) := cV (hJ.2.2.2.2.1 (hL 5 (by decide))).1 rfl
    have o15 : OwnB w13 w5.heap.size (vs 9) [byteAt x.kd 0] := hJ.2.2.2.2.2 (hL 9 (by decide))
    have ln_o14 := congrArg List.length (rfl : ((joinB [x.gs] ++ be x.ep (8 : Int).toNat) ++ [byteAt x.fr 0]) ++ joinB [x.ms] = ((joinB [x.gs] ++ be x.ep (8 : Int).toNat) ++ [byteAt x.fr 0]) ++ joinB [x.ms])
    simp only [List.length_append] at ln_o14
    replace hb1 := hb1.keep kJ (fun hm => by have h1 := (o5.blk _ hm).1; omega)
    replace hB := hB.new kJ (fun y hy => .inl (Nat.le_trans ge_b1 (Nat.le_of_lt (o5.blk y hy).1)))
    refine dR [(31, vs 5), (35, vs 9), (1, _), (3, _), (18, _), (19, _), (20, _)] ⟨rfl, rfl, rfl, rfl, rfl, rfl, rfl, trivial⟩ ?_
    have lt_o16 := hb1.lt
    refine ah (bS aA bu rfl o14 rfl (show RdB _ _ _ from o15.rd) (by first | omega | (simp only [List.length_append] at *; omega)) (by omega)) rfl ?_
    rintro v10 w14 ⟨o16, k12, lb6, _⟩
    replace hB := hB.new k12 (fun x hx => .inl (Nat.le_trans ge_b1 (Nat.le_of_lt (o14.blk x hx).1)))
    replace hb1 := hb1.keep k12 (fun hm => absurd (o14.blk _ hm).1 (Nat.lt_irrefl _))
    replace o16 := cV (zs := ((((joinB [x.gs] ++ be x.ep (8 : Int).toNat) ++ [byteAt x.fr 0]) ++ joinB [x.ms]) ++ [byteAt x.kd 0])) o16 rfl
    have ln_o16 := congrArg List.length (rfl : ((((joinB [x.gs] ++ be x.ep (8 : Int).toNat) ++ [byteAt x.fr 0]) ++ joinB [x.ms]) ++ [byteAt x.kd 0]) = ((((joinB [x.gs] ++ be x.ep (8 : Int).toNat) ++ [byteAt x.fr 0]) ++ joinB [x.ms]) ++ [byteAt x.kd 0]))
    simp only [List.length_append] at ln_o16
    refine oga rfl rfl ?_
    refine aZ ?_
    refine aY ?_
    refine aX ?_
    refine ogm rfl rfl ?_
    refine a4 (aj 6 aB rfl az (by decide) rfl rfl) rfl ?_
    refine a4 (ac ba rfl hb1 rfl) rfl ?_
    refine ah (dG (m := 1) (ls := [x.bs]) (xs := [.tmp 39]) (us := [_]) aJ az rfl rfl (bA (by first | exact Rd.nil _ _ | exact (by first | assumption | exact Own.rd (by assumption) | exact Rd.lh (by assumption) hB | exact Own.rd (Own.lh (by assumption) hB))) (bt _)) rfl rfl) rfl ?_
    rintro v11 w15 ⟨sl2, k13⟩
    replace hb1 := hb1.lh k13
    replace o16 := o16.lh k13
    replace hB := hB.trans k13
    refine ah (a7 (vs := [_]) rfl (dX _ [x.bs] _ _ (by assumption) (by omega))) rfl ?_
    rintro v12 w16 ⟨o18, k14⟩
    have gl_o18 := hB.size
    replace hb1 := hb1.lh k14
    replace o16 := o16.lh k14
    replace sl2 := sl2.lh k14
    replace hB := hB.trans k14
    have lt_o19 := hb1.lt
    refine ah (bS aA bu rfl o16 rfl (show RdB _ _ _ from o18.rd) (by first | omega | (simp only [List.length_append] at *; omega)) (by omega)) rfl ?_
    rintro v13 w17 ⟨o19, k15, lb7, _⟩
    replace hB := hB.new k15 (fun x hx => .inl (Nat.le_trans ge_b1 (Nat.le_of_lt (o16.blk x hx).1)))
    replace hb1 := hb1.keep k15 (fun hm => absurd (o16.blk _ hm).1 (Nat.lt_irrefl _))
    replace o19 := cV (zs := (((((joinB [x.gs] ++ be x.ep (8 : Int).toNat) ++ [byteAt x.fr 0]) ++ joinB [x.ms]) ++ [byteAt x.kd 0]) ++ joinB [x.bs])) o19 rfl
    have ln_o19 := congrArg List.length (rfl : (((((joinB [x.gs] ++ be x.ep (8 : Int).toNat) ++ [byteAt x.fr 0]) ++ joinB [x.ms]) ++ [byteAt x.kd 0]) ++ joinB [x.bs]) = (((((joinB [x.gs] ++ be x.ep (8 : Int).toNat) ++ [byteAt x.fr 0]) ++ joinB [x.ms]) ++ [byteAt x.kd 0]) ++ joinB [x.bs]))
    simp only [List.length_append] at ln_o19
    refine oga rfl rfl ?_
    refine aZ ?_
    refine ab [(2, _)] ⟨rfl, trivial⟩ ?_
    refine af hfin Tryd.results29 rfl ?_
    have e9 := l4 hok
    first | rw [if_pos (by assumption)] at e9 | rw [if_neg (by assumption), List.append_nil] at e9
    rw [← e9]
    exact ⟨(show OwnB _ _ _ _ from o19).lo (by omega), hB⟩
theorem jE {x : Fm} (h1 : x.ss.length ≤ 65536) (h2 : x.cs.length ≤ 65536) : (if x.kd = 3 then joinB [x.ss] ++ joinB [x.cs] else joinB [x.ss]) = endB x := by
 unfold endB; rw [ee h1, ee h2, gW h1]
 congr 1
 unfold vecsB; rw [if_pos (by intro y hy; simp only [List.mem_cons, List.not_mem_nil, or_false] at hy; rcases hy with rfl | rfl <;> assumption)]; simp [vecs]
theorem io (g m b sg cf : Value) (x : Fm) (w : World) (hs : RdB w sg x.ss) (hc : RdB w cf x.cs) (hsl : x.ss.length ≤ 65536) (hcl : x.cs.length ≤ 65536) : Rets Tryd.prog 24 [.agg [g, .int .i64 x.ep, .int .i64 x.fr, .int .i64 x.lf, m, .int .i64 x.kd, b, .int .i64 x.wi, sg, cf].toArray] w (fun v w' => OwnB w' w.heap.size v (endB x) ∧ Keep [] w w') := by
 have hB : Keep [] w w := Keep.refl _ _
 have m1 := eV hsl
 have m2 := eV hcl
 refine ad Tryd.func24 rfl (by decide) Tryd.ntmps24 rfl (fun fin _ hfin => ?_)
 refine aY (aX (ah (bz (cs := [g, .int .i64 x.ep, .int .i64 x.fr, .int .i64 x.lf, m, .int .i64 x.kd, b, .int .i64 x.wi, sg, cf]) rfl rfl) rfl ?_))
 rintro _ w1 ⟨b1, rfl, eb1, hb1, k1, z1⟩
 have ge_b1 : w.heap.size ≤ b1 := by have := hB.size; omega
 replace hB := hB.trans k1
 clear eb1 z1
 refine oga rfl rfl (aZ (aY (aX (a4 (aj 8 aL rfl az (by decide) rfl rfl) rfl ?_))))
 refine a4 (ac ba rfl hb1 rfl) rfl ?_
 refine ah (dG (m := 1) (ls := [x.ss]) (xs := [.tmp 5]) (us := [_]) aJ az rfl rfl (bA (by first | exact Rd.nil _ _ | exact (by first | assumption | exact Own.rd ‹_› | exact Rd.lh ‹_› hB | exact Own.rd (Own.lh ‹_› hB))) (bt _)) rfl rfl) rfl ?_
 rintro v1 w2 ⟨sl1, k2⟩
 replace hb1 := hb1.lh k2
 replace hB := hB.trans k2
 have ltb1 := hb1.lt
 refine ah (a7 (vs := [_]) rfl (dX _ [x.ss] _ _ ‹_› (by omega))) rfl ?_
 rintro v2 w3 ⟨o2, k3⟩
 have gl_o2 := hB.size
 replace hb1 := hb1.lh k3
 replace sl1 := sl1.lh k3
 replace hB := hB.trans k3
 refine oga rfl rfl (aZ (aY (aY (aX (a4 (aj 0 aL rfl ej (by decide) rfl rfl) rfl ?_)))))
 refine a4 (aj 5 aB rfl bJ (by decide) rfl rfl) rfl ?_
 refine a4 (ac bZ rfl hb1 rfl) rfl ?_
 refine a4 (bF rfl rfl) rfl ?_
 refine aZ (ar rfl (fun hc1 => ?_) (fun hc1 => ?_))
 ·
  refine aX (ogm rfl rfl (a4 (aj 9 aL rfl az (by decide) rfl rfl) rfl ?_))
  refine a4 (ac ba rfl hb1 rfl) rfl ?_
  refine ah (dG (m := 1) (ls := [x.cs]) (xs := [.tmp 14]) (us := [_]) aJ az rfl rfl (bA (by first | exact Rd.nil _ _ | exact (by first | assumption | exact Own.rd ‹_› | exact Rd.lh ‹_› hB | exact Own.rd (Own.lh ‹_› hB))) (bt _)) rfl rfl) rfl ?_
  rintro v3 w4 ⟨sl2, k4⟩
  replace hb1 := hb1.lh k4
  replace sl1 := sl1.lh k4
  replace o2 := o2.lh k4
  replace hB := hB.trans k4
  refine ah (a7 (vs := [_]) rfl (dX _ [x.cs] _ _ ‹_› (by omega))) rfl ?_
  rintro v4 w5 ⟨o4, k5⟩
  have gl_o4 := hB.size
  replace hb1 := hb1.lh k5
  replace sl1 := sl1.lh k5
  replace o2 := o2.lh k5
  replace sl2 := sl2.lh k5
  replace hB := hB.trans k5
  replace o2 := o2.lo (show b1 + 1 ≤ _ from by omega)
  have lt_o5 := hb1.lt
  refine ah (bS (xs := joinB [x.ss]) (ys := joinB [x.cs]) aA bu rfl o2 rfl o4.rd (by show List.length (joinB [x.ss]) + List.length (joinB [x.cs]) ≤ _; first | omega | (simp only [List.length_append] at *; omega)) (by omega)) rfl ?_
  rintro v5 w6 ⟨o5, k6, lb1, _⟩
  replace hB := hB.new k6 (fun x hx => .inl (by have h1 := (o2.blk x hx).1; omega))
  replace hb1 := hb1.keep k6 (fun hm => by have h1 := (o2.blk _ hm).1; omega)
  replace o5 : OwnB _ _ _ (joinB [x.ss] ++ joinB [x.cs]) := cV o5 rfl
  refine oga rfl rfl (aZ (ab [(3, _)] ⟨rfl, trivial⟩ ?_))
  refine aY (aX (ogm rfl rfl (oga rfl rfl (aZ (af hfin Tryd.results24 rfl ?_)))))
  have e9 := jE hsl hcl
  first | rw [if_pos ‹_›] at e9 | rw [if_neg ‹_›] at e9
  rw [← e9]
  exact ⟨(show OwnB _ _ _ _ from o5).lo (by omega), hB⟩
 ·
  refine a8 (aY (aX (ogm rfl rfl (oga rfl rfl (aZ (ab [(2, _)] ⟨rfl, trivial⟩ ?_))))))
  refine af hfin Tryd.results24 rfl ?_
  have e9 := jE hsl hcl
  first | rw [if_pos ‹_›] at e9 | rw [if_neg ‹_›] at e9
  rw [← e9]
  exact ⟨(show OwnB _ _ _ _ from o2).lo (by omega), hB⟩
theorem tx_1 {x : Fm} {wi : Int} {ctx : List UInt8} (h : ¬ (cOk x = true ∧ (wi = 1 ∨ wi = 2))) : txE x wi ctx = 1 := by
 have : (cOk x && (decide (wi = 1) || decide (wi = 2))) = false := by rw [← Bool.not_eq_true, Bool.and_eq_true, Bool.or_eq_true, decide_eq_true_eq, decide_eq_true_eq]; exact h
 unfold txE; rw [this]; rfl
theorem tx_2 {x : Fm} {wi : Int} {ctx : List UInt8} (h : cOk x = true ∧ (wi = 1 ∨ wi = 2)) : txE x wi ctx = if 2000 < ctx.length then 6 else 0 := by
 have : (cOk x && (decide (wi = 1) || decide (wi = 2))) = true := by rw [Bool.and_eq_true, Bool.or_eq_true, decide_eq_true_eq, decide_eq_true_eq]; exact h
 unfold txE; rw [this]; rfl
theorem lI {w : World} {lo : Nat} {v : Value} {z wi : Int} (ho : Own w lo 5 1 v 4 [.int .u8 0, .int .u8 1, .int .u8 0, .int .u8 z]) (hz : Eqn z (wi % 256)) (h : wi = 1 ∨ wi = 2) : OwnB w lo v (numB (bitsOf 2) 1 2 ++ numB (bitsOf 2) wi 2) := by
 have hz : z = wi := by have h9 : z = wi % 256 := hz; omega
 subst hz
 rcases h with rfl | rfl
 · rw [show numB (bitsOf 2) 1 2 ++ numB (bitsOf 2) 1 2 = [0, 1, 0, 1] from by decide]; exact ho
 · rw [show numB (bitsOf 2) 1 2 ++ numB (bitsOf 2) 2 2 = [0, 1, 0, 2] from by decide]; exact ho
theorem kK (g m b cv : Value) (x : Fm) (wi : Int) (ctx : List UInt8) (w : World) (hg : RdB w g x.gs) (hm : RdB w m x.ms) (hb : RdB w b x.bs) (hcv : RdB w cv ctx) : Rets Tryd.prog 22 [.agg [g, .int .i64 x.ep, .int .i64 x.fr, .int .i64 x.lf, m, .int .i64 x.kd, b].toArray, .int .i64 wi, cv] w (fun v w' => ∃ u, v = .tuple #[u, .int .i64 (txE x wi ctx)] ∧ OwnB w' w.heap.size u (txB x wi ctx) ∧ Keep [] w w') := by
 have hB : Keep [] w w := Keep.refl _ _
 refine ad Tryd.func22 rfl (by decide) Tryd.ntmps22 rfl (fun fin _ hfin => ?_)
 refine aY (aX (ah (bz (cs := [g, .int .i64 x.ep, .int .i64 x.fr, .int .i64 x.lf, m, .int .i64 x.kd, b]) rfl rfl) rfl ?_))
 rintro _ w1 ⟨b1, rfl, eb1, hb1, k1, z1⟩
 have ge_b1 : w.heap.size ≤ b1 := by have := hB.size; omega
 replace hB := hB.trans k1
 clear eb1 z1
 refine oga rfl rfl (oga rfl rfl (aZ (aY (aY (aX (a4 (an (cs' := [_, _, _, _, _, _, _]) jJ ej rfl hb1 rfl rfl) rfl ?_))))))
 refine ah (a7 (vs := [_]) rfl (gB g m b x _ (hg.lh hB) (hm.lh hB) (hb.lh hB))) rfl ?_
 rintro _ w2 ⟨rfl, k2⟩
 replace hb1 := hb1.lh k2
 replace hB := hB.trans k2
 refine a4 (dq rfl) rfl ?_
 refine ogm rfl rfl (al 11 false rfl (fun c1 hgc1 => ?_))
 refine a5 [(1, _)] (aa rfl rfl rfl hgc1) ⟨au rfl, trivial⟩ (fun hw1 => av rfl) rfl ?_
 refine a5 [(12, _)] (aa rfl rfl rfl hgc1) ⟨ae rfl, trivial⟩ (fun hw2 => cC rfl rfl) rfl ?_
 refine a5 [(13, _)] (aa rfl rfl rfl hgc1) ⟨ae rfl, trivial⟩ (fun hw3 => av rfl) rfl ?_
 refine cl 14 true rfl (fun c2 hgc2 => ?_)
 refine a5 [(1, _)] (cc rfl rfl rfl hgc2) ⟨au rfl, trivial⟩ (fun hw4 => av rfl) rfl ?_
 refine a5 [(15, _)] (cc rfl rfl rfl hgc2) ⟨ae rfl, trivial⟩ (fun hw5 => cC rfl rfl) rfl ?_
 refine ck (aa rfl rfl rfl hgc1) (ae rfl) rfl hgc2 rfl ?_
 refine a4 (bi rfl rfl hgc1) rfl ?_
 refine aZ (ab [(1, _), (2, _), (3, _), (18, _)] ⟨rfl, rfl, rfl, rfl, trivial⟩ ?_)
 refine bH rfl (fun hc1 => ?_) (fun hc1 => ?_)
 ·
  have hd1 := hc1
  try (simp only [Bool.and_eq_true, Bool.or_eq_true, decide_eq_true_eq, Bool.and_eq_false_iff, Bool.or_eq_false_iff, decide_eq_false_iff_not, Bool.not_eq_true', Bool.not_eq_false', Bool.not_eq_true, Bool.not_eq_false, ne_eq, Decidable.not_not, decide_true, decide_false, Bool.true_and, Bool.false_and, Bool.or_false, Bool.false_or, not_true_eq_false, false_or, or_false, true_and, and_true, not_false_eq_true, reduceCtorEq] at hd1)
  refine aY (aX (oga rfl rfl (oga rfl rfl (aZ (bK hfin Tryd.results22 rfl rfl ?_)))))
  have e0 : txE x wi ctx = 1 := tx_1 (by cases hq : cOk x <;> simp_all <;> omega)
  refine ⟨_, by rw [e0], ?_, hB⟩
  unfold txB; rw [if_neg (by rw [e0]; decide)]; exact a9 _ _ _ _
 ·
  have hd2 := hc1
  try (simp only [Bool.and_eq_true, Bool.or_eq_true, decide_eq_true_eq, Bool.and_eq_false_iff, Bool.or_eq_false_iff, decide_eq_false_iff_not, Bool.not_eq_true', Bool.not_eq_false', Bool.not_eq_true, Bool.not_eq_false, ne_eq, Decidable.not_not, decide_true, decide_false, Bool.true_and, Bool.false_and, Bool.or_false, Bool.false_or, not_true_eq_false, false_or, or_false, true_and, and_true, not_false_eq_true, reduceCtorEq] at hd2)
  refine a8 (aY (aY (aX (ogm rfl rfl (a4 (bI aA rfl (by first | assumption | exact Own.rd ‹_› | exact Rd.lh ‹_› hB | exact Own.rd (Own.lh ‹_› hB))) rfl ?_)))))
  refine a4 (dr rfl rfl) rfl ?_
  refine aZ (ar rfl (fun hc2 => ?_) (fun hc2 => ?_))
  ·
   refine aY (aX (oga rfl rfl (oga rfl rfl (aZ (bK hfin Tryd.results22 rfl rfl ?_)))))
   have hcw : cOk x = true ∧ (wi = 1 ∨ wi = 2) := by
    cases hq : cOk x <;> simp_all <;> omega
   have e0 : txE x wi ctx = 6 := by rw [tx_2 hcw, if_pos (by omega)]
   refine ⟨_, by rw [e0], ?_, hB⟩
   unfold txB; rw [if_neg (by rw [e0]; decide)]; exact a9 _ _ _ _
  ·
   refine a8 (aY (aX ?_))
   have hcw : cOk x = true ∧ (wi = 1 ∨ wi = 2) := by
    cases hq : cOk x <;> simp_all <;> omega
   have hokc := hcw.1
   have hwi := hcw.2
   have ltb1 := hb1.lt
   have hcl : ctx.length ≤ 2000 := by omega
   have hcb := @jt x
   have hn1 := cu (bitsOf 2) 1 2 (by decide)
   have hn2 := cu (bitsOf 2) wi 2 (by decide)
   refine ogm rfl rfl (ow_gx (e' := wi % 256) (lo := 0) (hi := 255) (dY (by rw [aK]; rfl) aI rfl) (fS rfl _) (In.wk (lP _ (by decide)) rfl) rfl (fun z2 h1 r1 => ?_))
   refine ah (dA (m := 4) (xs := [.const (.int .u8 0), .const (.int .u8 1), .const (.int .u8 0), .tmp 23]) (vs := [_, _, _, _]) aA bu (by decide) rfl rfl rfl (by simp only [List.forall_mem_cons]; exact ⟨rfl, rfl, rfl, rfl, fun v hv => by cases hv⟩) (by decide)) rfl ?_
   rintro v1 w3 ⟨o1, _, _, k3, _⟩
   have gl_o1 := hB.size
   have gl_o1 := hB.size
   replace hb1 := hb1.lh k3
   replace hB := hB.trans k3
   replace o1 := (lI o1 ‹Eqn _ (wi % 256)› hwi).lo (show b1 + 1 ≤ _ from by omega)
   refine a4 (an (cs' := [_, _, _, _, _, _, _]) jJ ej rfl hb1 rfl rfl) rfl ?_
   refine ah (a7 (vs := [_]) rfl (jg g m b x _ (hg.lh hB) (hm.lh hB) (hb.lh hB) hokc)) rfl ?_
   rintro v2 w4 ⟨o2, k4⟩
   have gl_o2 := hB.size
   replace hb1 := hb1.lh k4
   replace o1 := o1.lh k4
   replace hB := hB.trans k4
   have lt_o3 := hb1.lt
   refine ah (bS (xs := (numB (bitsOf 2) 1 2 ++ numB (bitsOf 2) wi 2)) (ys := cB x) aA bu rfl o1 rfl o2.rd (by show List.length ((numB (bitsOf 2) 1 2 ++ numB (bitsOf 2) wi 2)) + List.length (cB x) ≤ _; first | omega | (simp only [List.length_append] at *; omega)) (by omega)) rfl ?_
   rintro v3 w5 ⟨o3, k5, lb1, _⟩
   replace hB := hB.new k5 (fun x hx => .inl (by have h1 := (o1.blk x hx).1; omega))
   replace hb1 := hb1.keep k5 (fun hm => by have h1 := (o1.blk _ hm).1; omega)
   replace o3 : OwnB _ _ _ ((numB (bitsOf 2) 1 2 ++ numB (bitsOf 2) wi 2) ++ cB x) := cV o3 rfl
   refine ogm rfl rfl ?_
   have lt_o4 := hb1.lt
   refine ah (bS (xs := ((numB (bitsOf 2) 1 2 ++ numB (bitsOf 2) wi 2) ++ cB x)) (ys := ctx) aA bu rfl o3 rfl (show RdB _ cv ctx from Rd.lh ‹_› hB) (by show List.length (((numB (bitsOf 2) 1 2 ++ numB (bitsOf 2) wi 2) ++ cB x)) + List.length (ctx) ≤ _; first | omega | (simp only [List.length_append] at *; omega)) (by omega)) rfl ?_
   rintro v4 w6 ⟨o4, k6, lb2, _⟩
   replace hB := hB.new k6 (fun x hx => .inl (by have h1 := (o3.blk x hx).1; omega))
   replace o4 : OwnB _ _ _ (((numB (bitsOf 2) 1 2 ++ numB (bitsOf 2) wi 2) ++ cB x) ++ ctx) := cV o4 rfl
   refine oga rfl rfl (oga rfl rfl (aZ (ab [(6, _), (7, _)] ⟨rfl, rfl, trivial⟩ ?_)))
   refine bK hfin Tryd.results22 rfl rfl ?_
   have e0 : txE x wi ctx = 0 := by rw [tx_2 hcw, if_neg (by omega)]
   refine ⟨_, by rw [e0], ?_, hB⟩
   unfold txB; rw [if_pos e0, show txT x wi ctx = (((numB (bitsOf 2) 1 2 ++ numB (bitsOf 2) wi 2) ++ cB x) ++ ctx) from by unfold txT; simp only [List.flatten_cons, List.flatten_nil, List.append_assoc, List.append_nil]]
   exact (show OwnB _ _ _ _ from o4).lo (by omega)
theorem tg_1 {x : Fm} {ctx : List UInt8} (h : ¬ (sOk x = true ∧ x.wi = 1)) : tgE x ctx = 1 := by
 have : (sOk x && decide (x.wi = 1)) = false := by rw [← Bool.not_eq_true, Bool.and_eq_true, decide_eq_true_eq]; exact h
 unfold tgE; rw [this]; rfl
theorem tg_2 {x : Fm} {ctx : List UInt8} (h : sOk x = true ∧ x.wi = 1) : tgE x ctx = txE x 1 ctx := by
 have : (sOk x && decide (x.wi = 1)) = true := by rw [Bool.and_eq_true, decide_eq_true_eq]; exact h
 unfold tgE; rw [this, tx_2 ⟨(dP h.1).1, .inl rfl⟩]; rfl
theorem ig (g m b sg cf mv cv : Value) (x : Fm) (mem ctx : List UInt8) (w : World) (hg : RdB w g x.gs) (hm : RdB w m x.ms) (hb : RdB w b x.bs) (hs : RdB w sg x.ss) (hc : RdB w cf x.cs) (hmv : RdB w mv mem) (hml : mem.length ≤ 140737488351232) (hcv : RdB w cv ctx) : Rets Tryd.prog 7 [.agg [g, .int .i64 x.ep, .int .i64 x.fr, .int .i64 x.lf, m, .int .i64 x.kd, b, .int .i64 x.wi, sg, cf].toArray, mv, cv] w (fun v w' => ∃ u, v = .tuple #[u, .int .i64 (tgE x ctx)] ∧ OwnB w' w.heap.size u (tgB x mem ctx) ∧ Keep [] w w') := by
 have hB : Keep [] w w := Keep.refl _ _
 refine ad Tryd.func7 rfl (by decide) Tryd.ntmps7 rfl (fun fin _ hfin => ?_)
 refine aY (aX (ah (bz (cs := [g, .int .i64 x.ep, .int .i64 x.fr, .int .i64 x.lf, m, .int .i64 x.kd, b, .int .i64 x.wi, sg, cf]) rfl rfl) rfl ?_))
 rintro _ w1 ⟨b1, rfl, eb1, hb1, k1, z1⟩
 have ge_b1 : w.heap.size ≤ b1 := by have := hB.size; omega
 replace hB := hB.trans k1
 clear eb1 z1
 refine oga rfl rfl (oga rfl rfl (aZ (aY (aY (aX (a4 (an (cs' := [_, _, _, _, _, _, _, _, _, _]) cd bc rfl hb1 rfl rfl) rfl ?_))))))
 refine ah (a7 (vs := [_]) rfl (cj g m b sg cf x _ (hg.lh hB) (hm.lh hB) (hb.lh hB) (hs.lh hB) (hc.lh hB))) rfl ?_
 rintro _ w2 ⟨rfl, k2⟩
 replace hb1 := hb1.lh k2
 replace hB := hB.trans k2
 refine a4 (dq rfl) rfl ?_
 refine ogm rfl rfl (al 13 false rfl (fun c1 hgc1 => ?_))
 refine a5 [(3, _)] (aa rfl rfl rfl hgc1) ⟨au rfl, trivial⟩ (fun hw1 => aj 7 aL rfl bJ (by decide) rfl rfl) rfl ?_
 refine a5 [(14, _)] (aa rfl rfl rfl hgc1) ⟨ae rfl, trivial⟩ (fun hw2 => ac bZ rfl hb1 rfl) rfl ?_
 refine a5 [(15, _)] (aa rfl rfl rfl hgc1) ⟨ae rfl, trivial⟩ (fun hw3 => cC rfl rfl) rfl ?_
 refine a4 (bi rfl rfl hgc1) rfl ?_
 refine aZ (ab [(1, _), (2, _), (3, _), (17, _)] ⟨rfl, rfl, rfl, rfl, trivial⟩ ?_)
 refine bH rfl (fun hc1 => ?_) (fun hc1 => ?_)
 ·
  have hd1 := hc1
  try (simp only [Bool.and_eq_true, Bool.or_eq_true, decide_eq_true_eq, Bool.and_eq_false_iff, Bool.or_eq_false_iff, decide_eq_false_iff_not, Bool.not_eq_true', Bool.not_eq_false', Bool.not_eq_true, Bool.not_eq_false, ne_eq, Decidable.not_not, decide_true, decide_false, Bool.true_and, Bool.false_and, Bool.or_false, Bool.false_or, not_true_eq_false, false_or, or_false, true_and, and_true, not_false_eq_true, reduceCtorEq] at hd1)
  refine aY (aX (oga rfl rfl (oga rfl rfl (aZ (bK hfin Tryd.results7 rfl rfl ?_)))))
  have e0 : tgE x ctx = 1 := tg_1 (by cases hq : sOk x <;> simp_all)
  refine ⟨_, by rw [e0], ?_, hB⟩
  unfold tgB; rw [if_neg (by rw [e0]; decide)]; exact a9 _ _ _ _
 ·
  have hd2 := hc1
  try (simp only [Bool.and_eq_true, Bool.or_eq_true, decide_eq_true_eq, Bool.and_eq_false_iff, Bool.or_eq_false_iff, decide_eq_false_iff_not, Bool.not_eq_true', Bool.not_eq_false', Bool.not_eq_true, Bool.not_eq_false, ne_eq, Decidable.not_not, decide_true, decide_false, Bool.true_and, Bool.false_and, Bool.or_false, Bool.false_or, not_true_eq_false, false_or, or_false, true_and, and_true, not_false_eq_true, reduceCtorEq] at hd2)
  refine a8 (aY (aX ?_))
  have hsw : sOk x = true ∧ x.wi = 1 := by
   cases hq : sOk x <;> simp_all
  have ltb1 := hb1.lt
  refine a4 (aj 0 aL rfl ej (by decide) rfl rfl) rfl ?_
  refine a4 (an (cs' := [_, _, _, _, _, _, _]) jJ ej rfl hb1 rfl rfl) rfl ?_
  refine ogm rfl rfl (ah (a7 (vs := [_, _, _]) rfl (kK g m b cv x 1 ctx _ (hg.lh hB) (hm.lh hB) (hb.lh hB) (hcv.lh hB))) rfl ?_)
  rintro _ w3 ⟨u1, rfl, o1, k3⟩
  have gl_o1 := hB.size
  replace hb1 := hb1.lh k3
  replace hB := hB.trans k3
  refine ogm rfl rfl (a4 (bm (vs := [_, _]) rfl rfl) rfl ?_)
  refine a4 (bm (vs := [_, _]) rfl rfl) rfl ?_
  refine oga rfl rfl (oga rfl rfl (aZ (aY (aY (aX (ogm rfl rfl ?_))))))
  refine a4 (cC rfl rfl) rfl ?_
  refine aZ (ab [(1, _), (3, _), (8, _), (9, _), (26, _)] ⟨rfl, rfl, rfl, rfl, rfl, trivial⟩ ?_)
  refine ar rfl (fun hc2 => ?_) (fun hc2 => ?_)
  ·
   refine aY (aX (ogm rfl rfl (oga rfl rfl (oga rfl rfl (aZ (bK hfin Tryd.results7 rfl rfl ?_))))))
   have e0 : tgE x ctx = txE x 1 ctx := tg_2 hsw
   refine ⟨_, by rw [e0], ?_, hB⟩
   unfold tgB; rw [if_neg (by rw [e0]; assumption)]; exact a9 _ _ _ _
  ·
   refine a8 (aY (aX ?_))
   have htx : txE x 1 ctx = 0 := by omega
   have htg : tgE x ctx = 0 := by rw [tg_2 hsw]; exact htx
   have hcl := (tx_ok htx).2.2
   have htl := jO (x := x) (wi := 1) hcl
   have hel := @gQ x
   replace o1 : OwnB w3 (b1 + 1) u1 (txT x 1 ctx) := by have h9 := o1; unfold txB at h9; rw [if_pos htx] at h9; exact h9.lo (by omega)
   refine ogm rfl rfl (ogm rfl rfl (a4 (an (cs' := [_, _, _, _, _, _, _, _, _, _]) cd bc rfl hb1 rfl rfl) rfl ?_))
   refine ah (a7 (vs := [_]) rfl (io g m b sg cf x _ (hs.lh hB) (hc.lh hB) (by have := (dP hsw.1).2.2.1; omega) (by have := (dP hsw.1).2.2.2; split at this <;> omega))) rfl ?_
   rintro v1 w4 ⟨o2, k4⟩
   have gl_o2 := hB.size
   replace hb1 := hb1.lh k4
   replace o1 := o1.lh k4
   replace hB := hB.trans k4
   have lt_o3 := hb1.lt
   refine ah (bS (xs := txT x 1 ctx) (ys := endB x) aA bu rfl o1 rfl o2.rd (by show List.length (txT x 1 ctx) + List.length (endB x) ≤ _; first | omega | (simp only [List.length_append] at *; omega)) (by omega)) rfl ?_
   rintro v2 w5 ⟨o3, k5, lb1, _⟩
   replace hB := hB.new k5 (fun x hx => .inl (by have h1 := (o1.blk x hx).1; omega))
   replace o3 : OwnB _ _ _ (txT x 1 ctx ++ endB x) := cV o3 rfl
   refine ah (a7 (vs := [_, _]) rfl (kT _ _ mem (txT x 1 ctx ++ endB x) _ (hmv.lh hB) (by omega) o3.rd (by rw [List.length_append]; omega))) rfl ?_
   rintro v3 w6 ⟨o4, k6⟩
   have gl_o4 := hB.size
   replace hB := hB.trans k6
   refine oga rfl rfl (oga rfl rfl (aZ (ab [(6, _), (7, _)] ⟨rfl, rfl, trivial⟩ ?_)))
   refine bK hfin Tryd.results7 rfl rfl ?_
   refine ⟨_, by rw [htg], ?_, hB⟩
   unfold tgB; rw [if_pos htg]; exact o4.lo (by omega)
theorem i6 {a : List UInt8} (h : a.length ≤ 65536) : joinB [a] = vecsB [a] := by rw [ee h, gW h]
theorem ky (g m b sg cf mv cv : Value) (x : Fm) (mem ctx : List UInt8) (w : World) (hg : RdB w g x.gs) (hm : RdB w m x.ms) (hb : RdB w b x.bs) (hs : RdB w sg x.ss) (hc : RdB w cf x.cs) (hmv : RdB w mv mem) (hml : mem.length ≤ 140737488351232) (hcv : RdB w cv ctx) : Rets Tryd.prog 9 [.agg [g, .int .i64 x.ep, .int .i64 x.fr, .int .i64 x.lf, m, .int .i64 x.kd, b, .int .i64 x.wi, sg, cf].toArray, mv, cv] w (fun v w' => ∃ u, v = .tuple #[u, .int .i64 (tgE x ctx)] ∧ OwnB w' w.heap.size u (ppB x mem ctx) ∧ Keep [] w w') := by
  have hB : Keep [] w w := Keep.refl _ _
  refine ad Tryd.func9 rfl (by decide) Tryd.ntmps9 rfl (fun fin _ hfin => ?_)
  refine aY ?_
  refine aX ?_
  refine ah (bz (cs := [g, .int .i64 x.ep, .int .i64 x.fr, .int .i64 x.lf, m, .int .i64 x.kd, b, .int .i64 x.wi, sg, cf]) rfl rfl) rfl ?_
  rintro _ w1 ⟨b1, rfl, eb1, hb1, k1, z1⟩
  have ge_b1 : w.heap.size ≤ b1 := by have := hB.size; omega
  replace hB := hB.trans k1
  clear eb1 z1
  refine oga rfl rfl ?_
  refine oga rfl rfl ?_
  refine aZ ?_
  refine aY ?_
  refine aX ?_
  refine a4 (an (cs' := [_, _, _, _, _, _, _, _, _, _]) cd bc rfl hb1 rfl rfl) rfl ?_
  refine ogm rfl rfl ?_
  refine ogm rfl rfl ?_
  refine ah (a7 (vs := [_, _, _]) rfl (ig g m b sg cf mv cv x mem ctx _ (hg.lh hB) (hm.lh hB) (hb.lh hB) (hs.lh hB) (hc.lh hB) (hmv.lh hB) hml (hcv.lh hB))) rfl ?_
  rintro _ w2 ⟨u1, rfl, o1, k2⟩
  have gl_o1 := hB.size
  replace hb1 := hb1.lh k2
  replace hB := hB.trans k2
  refine ogm rfl rfl ?_
  refine a4 (bm (vs := [_, _]) rfl rfl) rfl ?_
  refine a4 (bm (vs := [_, _]) rfl rfl) rfl ?_
  refine oga rfl rfl ?_
  refine oga rfl rfl ?_
  refine aZ ?_
  refine ab [(3, _), (8, _), (9, _)] ⟨rfl, rfl, rfl, trivial⟩ ?_
  refine aY ?_
  refine aY ?_
  refine aX ?_
  refine ogm rfl rfl ?_
  refine a4 (cC rfl rfl) rfl ?_
  refine aZ ?_
  refine ar rfl (fun hc1 => ?_) (fun hc1 => ?_)
  · -- yes
    refine aY ?_
    refine aX ?_
    refine ogm rfl rfl ?_
    refine oga rfl rfl ?_
    refine oga rfl rfl ?_
    refine aZ ?_
    refine bK hfin Tryd.results9 rfl rfl ?_
    refine ⟨_, rfl, ?_, hB⟩
    unfold ppB; rw [if_neg (by assumption)]; exact a9 _ _ _ _
  · -- no
    refine a8 ?_
    refine aY ?_
    have hts := kt (show tgE x ctx = 0 by omega)
    have hcb := @jt x
    have hel := @gQ x
    have htl := @je x mem ctx
    have hjl := eV (a := tgB x mem ctx) (by omega)
    have hn1 := cu (bitsOf 2) 1 2 (by decide)
    have kb_o1 := fun x hx => (o1.blk x hx).2
    refine fk 6 mixed [(3, _), (8, _), (9, _), (18, _), (19, _)] (fun jj v => match jj with | 1 => v = .pointer (some ⟨b1, 0 + 0, none⟩) | 2 => v = .agg [g, .int .i64 x.ep, .int .i64 x.fr, .int .i64 x.lf, m, .int .i64 x.kd, b].toArray | 5 => v = .agg [g, .int .i64 x.ep, .int .i64 x.fr, .int .i64 x.lf, m, .int .i64 x.kd, b, .int .i64 x.wi, sg, cf].toArray | _ => True) (JP.J (JP.mk w2 5 ((numB (bitsOf 2) 1 2 ++ numB (bitsOf 2) 1 2)) (cB x))) ⟨rfl, rfl, rfl, rfl, rfl, trivial⟩ (by decide) (by decide) rfl (fun vs => JP.J_0 (j := (JP.mk w2 5 ((numB (bitsOf 2) 1 2 ++ numB (bitsOf 2) 1 2)) (cB x))) vs) (fun L vs vs' w' h hJ => hJ.same (fun h0 => h 0 h0 rfl) (fun h0 => h 3 h0 rfl) (fun h0 => h 4 h0 rfl)) ?_ ?_
    · refine ⟨?_, ?_, ?_, ?_, ?_, ?_, trivial⟩
      · refine ⟨[], rfl, ?_⟩; rintro L W1 vs hL0 hLd hJ hd
        have hk := hJ.1
        have hksz : w2.heap.size ≤ W1.heap.size := hk.size
        replace hb1 := hb1.lh hk
        replace o1 := o1.lh hk
        replace hB := hB.trans hk
        refine ⟨true, fun a _ => rfl, fun _ => ?_, fun h => by cases h⟩
        refine a6 [] trivial ?_
        refine (dA (m := 4) (xs := [.const (.int .u8 0), .const (.int .u8 1), .const (.int .u8 0), .const (.int .u8 1)]) (vs := [_, _, _, _]) aA bu (by decide) rfl rfl rfl (by simp only [List.forall_mem_cons]; exact ⟨rfl, rfl, rfl, rfl, fun v hv => by cases hv⟩) (by decide)).mono ?_
        rintro v W2 ⟨o1, _, _, k1, _⟩; exact ⟨trivial, hJ.bs k1 o1⟩
      · refine ⟨[], rfl, ?_⟩; rintro L W1 vs hL0 hLd hJ hd
        have hk := hJ.1
        have hksz : w2.heap.size ≤ W1.heap.size := hk.size
        replace hb1 := hb1.lh hk
        replace o1 := o1.lh hk
        replace hB := hB.trans hk
        refine ⟨true, fun a _ => rfl, fun _ => ?_, fun h => by cases h⟩
        refine a6 [(3, _)] ⟨rfl, trivial⟩ ?_
        refine (Gives.does (ay aL rfl ej (by decide) rfl)).mono ?_
        rintro v W2 ⟨rfl, rfl⟩; exact ⟨rfl, hJ⟩
      · refine ⟨[1], rfl, ?_⟩; rintro L W1 vs hL0 hLd hJ hd
        have d1 : vs 1 = .pointer (some ⟨b1, 0 + 0, none⟩) := hd 1 (by decide)
        have hk := hJ.1
        have hksz : w2.heap.size ≤ W1.heap.size := hk.size
        replace hb1 := hb1.lh hk
        replace o1 := o1.lh hk
        replace hB := hB.trans hk
        refine ⟨true, fun a _ => rfl, fun _ => ?_, fun h => by cases h⟩
        refine a6 [(22, .pointer (some ⟨b1, 0 + 0, none⟩))] ⟨congrArg some d1, trivial⟩ ?_
        refine (Gives.does (an (cs' := [_, _, _, _, _, _, _]) jJ ej rfl hb1 rfl rfl)).mono ?_
        rintro v W2 ⟨rfl, rfl⟩; exact ⟨rfl, hJ⟩
      · refine ⟨[2], rfl, ?_⟩; rintro L W1 vs hL0 hLd hJ hd
        have d2 : vs 2 = .agg [g, .int .i64 x.ep, .int .i64 x.fr, .int .i64 x.lf, m, .int .i64 x.kd, b].toArray := hd 2 (by decide)
        have hk := hJ.1
        have hksz : w2.heap.size ≤ W1.heap.size := hk.size
        replace hb1 := hb1.lh hk
        replace o1 := o1.lh hk
        replace hB := hB.trans hk
        refine ⟨true, fun a _ => rfl, fun _ => ?_, fun h => by cases h⟩
        refine a6 [(23, .agg [g, .int .i64 x.ep, .int .i64 x.fr, .int .i64 x.lf, m, .int .i64 x.kd, b].toArray)] ⟨congrArg some d2, trivial⟩ ?_
        refine (a7 (vs := [_]) rfl (jg g m b x _ (hg.lh hB) (hm.lh hB) (hb.lh hB) (dP hts.1).1)).mono ?_
        rintro v W2 ⟨o1, k1⟩; exact ⟨trivial, hJ.c3 k1 o1⟩
      · refine ⟨[0, 3], rfl, ?_⟩; rintro L W1 vs hL0 hLd hJ hd
        have hk := hJ.1
        have hksz : w2.heap.size ≤ W1.heap.size := hk.size
        replace hb1 := hb1.lh hk
        replace o1 := o1.lh hk
        replace hB := hB.trans hk
        refine ⟨true, fun a _ => rfl, fun _ => ?_, fun h => by cases h⟩
        refine a6 [(21, vs 0), (24, vs 3)] ⟨rfl, rfl, trivial⟩ ?_
        have h09 := hJ.2.1 (hLd 0 (by decide)) hL0
        have h39 := hJ.2.2.1 (hLd 3 (by decide)) hL0
        refine (bS aA bu rfl h09 rfl h39.rd (by show List.length ((numB (bitsOf 2) 1 2 ++ numB (bitsOf 2) 1 2)) + List.length (cB x) ≤ _; first | omega | (simp only [List.length_append] at *; omega)) (by show w2.heap.size ≤ _; omega)).mono ?_
        rintro v W2 ⟨o1, k1, lb, _⟩; exact ⟨trivial, hJ.app h09 o1 k1⟩
      · refine ⟨[], rfl, ?_⟩; rintro L W1 vs hL0 hLd hJ hd
        have hk := hJ.1
        have hksz : w2.heap.size ≤ W1.heap.size := hk.size
        replace hb1 := hb1.lh hk
        replace o1 := o1.lh hk
        replace hB := hB.trans hk
        refine ⟨true, fun a _ => rfl, fun _ => ?_, fun h => by cases h⟩
        refine a6 [(3, _)] ⟨rfl, trivial⟩ ?_
        refine (Gives.does (an (cs' := [_, _, _, _, _, _, _, _, _, _]) cd bc rfl hb1 rfl rfl)).mono ?_
        rintro v W2 ⟨rfl, rfl⟩; exact ⟨rfl, hJ⟩
    rintro w3 L hL vs hJ hS
    have kJ := hJ.1
    have zkJ : w2.heap.size ≤ _ := kJ.size
    have o2 : OwnB w3 w2.heap.size (vs 4) ((numB (bitsOf 2) 1 2 ++ numB (bitsOf 2) 1 2) ++ cB x) := cV (hJ.2.2.2 (hL 4 (by decide))) rfl
    have d5 : vs 5 = .agg [g, .int .i64 x.ep, .int .i64 x.fr, .int .i64 x.lf, m, .int .i64 x.kd, b, .int .i64 x.wi, sg, cf].toArray := hS 5 (by decide) rfl
    have ltw0 := hb1.lt
    have gew0 := hB.size
    replace hb1 := hb1.lh kJ
    replace o1 := o1.lh kJ
    replace hB := hB.trans kJ
    refine dR [(25, vs 4), (26, .agg [g, .int .i64 x.ep, .int .i64 x.fr, .int .i64 x.lf, m, .int .i64 x.kd, b, .int .i64 x.wi, sg, cf].toArray), (3, _), (8, _), (9, _), (18, _), (19, _)] ⟨rfl, congrArg some d5, rfl, rfl, rfl, rfl, rfl, trivial⟩ ?_
    have zw9 : SzLe w2.heap.size w3 := zkJ
    refine ah (a7 (vs := [_]) rfl (io g m b sg cf x _ (hs.lh hB) (hc.lh hB) (by have := (dP hts.1).2.2.1; omega) (by have := (dP hts.1).2.2.2; split at this <;> omega))) rfl ?_
    rintro v1 w4 ⟨o3, k3⟩
    have gl_o3 := hB.size
    replace hb1 := hb1.lh k3
    replace o1 := o1.lh k3
    replace zw9 := zw9.lh k3
    replace o2 := o2.lh k3
    replace hB := hB.trans k3
    have lt_o4 := hb1.lt
    refine ah (bS (xs := ((numB (bitsOf 2) 1 2 ++ numB (bitsOf 2) 1 2) ++ cB x)) (ys := endB x) aA bu rfl o2 rfl o3.rd (by show List.length (((numB (bitsOf 2) 1 2 ++ numB (bitsOf 2) 1 2) ++ cB x)) + List.length (endB x) ≤ _; first | omega | (simp only [List.length_append] at *; omega)) (by omega)) rfl ?_
    rintro v2 w5 ⟨o4, k4, lb1, _⟩
    replace hB := hB.new k4 (fun x hx => .inl (by have h1 := (o2.blk x hx).1; omega))
    replace hb1 := hb1.keep k4 (fun hm => by have h1 := (o2.blk _ hm).1; omega)
    replace zw9 := zw9.lh k4
    replace o1 := o1.keep k4 (fun x hx hm => by have h1 := kb_o1 x hx; have h2 := (o2.blk x hm).1; omega)
    replace o4 : OwnB _ _ _ (((numB (bitsOf 2) 1 2 ++ numB (bitsOf 2) 1 2) ++ cB x) ++ endB x) := cV o4 rfl
    refine oga rfl rfl ?_
    refine aZ ?_
    refine aY ?_
    refine aY ?_
    refine aX ?_
    refine a4 (aj 0 aL rfl ej (by decide) rfl rfl) rfl ?_
    refine a4 (aj 2 aB rfl bJ (by decide) rfl rfl) rfl ?_
    refine a4 (ac bZ rfl hb1 rfl) rfl ?_
    refine a4 (bF rfl rfl) rfl ?_
    refine aZ ?_
    refine ab [(8, _), (10, _), (32, _)] ⟨rfl, rfl, rfl, trivial⟩ ?_
    refine ar rfl (fun hc2 => ?_) (fun hc2 => ?_)
    · -- yes
      refine aX ?_
      refine ogm rfl rfl ?_
      refine ogm rfl rfl ?_
      refine ah (dG (m := 1) (ls := [tgB x mem ctx]) (xs := [.tmp 34]) (us := [_]) aJ az rfl rfl (bA (by first | exact Rd.nil _ _ | exact (by first | assumption | exact Own.rd (by assumption) | exact Rd.lh (by assumption) hB | exact Own.rd (Own.lh (by assumption) hB))) (bt _)) rfl rfl) rfl ?_
      rintro v3 w6 ⟨sl1, k5⟩
      replace o1 := o1.lh k5
      replace zw9 := zw9.lh k5
      replace o4 := o4.lh k5
      replace hB := hB.trans k5
      refine ah (a7 (vs := [_]) rfl (dX _ [tgB x mem ctx] _ _ (by assumption) (by omega))) rfl ?_
      rintro v4 w7 ⟨o6, k6⟩
      have gl_o6 := hB.size
      replace o1 := o1.lh k6
      replace zw9 := zw9.lh k6
      replace o4 := o4.lh k6
      replace sl1 := sl1.lh k6
      replace hB := hB.trans k6
      refine ah (bS (xs := (((numB (bitsOf 2) 1 2 ++ numB (bitsOf 2) 1 2) ++ cB x) ++ endB x)) (ys := joinB [tgB x mem ctx]) aA bu rfl o4 rfl o6.rd (by show List.length ((((numB (bitsOf 2) 1 2 ++ numB (bitsOf 2) 1 2) ++ cB x) ++ endB x)) + List.length (joinB [tgB x mem ctx]) ≤ _; first | omega | (simp only [List.length_append] at *; omega)) (by omega)) rfl ?_
      rintro v5 w8 ⟨o7, k7, lb2, _⟩
      replace hB := hB.new k7 (fun x hx => .inl (by have h1 := (o4.blk x hx).1; omega))
      replace zw9 := zw9.lh k7
      replace o7 : OwnB _ _ _ ((((numB (bitsOf 2) 1 2 ++ numB (bitsOf 2) 1 2) ++ cB x) ++ endB x) ++ joinB [tgB x mem ctx]) := cV o7 rfl
      refine oga rfl rfl ?_
      refine aZ ?_
      refine aY ?_
      refine aX ?_
      refine ogm rfl rfl ?_
      refine oga rfl rfl ?_
      refine oga rfl rfl ?_
      refine aZ ?_
      refine bK hfin Tryd.results9 rfl rfl ?_
      have e0 : tgE x ctx = 0 := by omega
      refine ⟨_, by rw [e0], ?_, hB⟩
      unfold ppB; rw [if_pos e0, show ppT x mem ctx = ((((numB (bitsOf 2) 1 2 ++ numB (bitsOf 2) 1 2) ++ cB x) ++ endB x) ++ joinB [tgB x mem ctx]) from by unfold ppT; (first | rw [if_pos (by assumption), ← i6 (by omega)] | rw [if_neg (by assumption)]); simp only [List.flatten_cons, List.flatten_nil, List.append_assoc, List.append_nil]]
      exact (show OwnB _ _ _ _ from o7).lo (by omega)
    · -- no
      refine a8 ?_
      refine aY ?_
      refine aX ?_
      refine ogm rfl rfl ?_
      refine oga rfl rfl ?_
      refine oga rfl rfl ?_
      refine aZ ?_
      refine bK hfin Tryd.results9 rfl rfl ?_
      have e0 : tgE x ctx = 0 := by omega
      refine ⟨_, by rw [e0], ?_, hB⟩
      unfold ppB; rw [if_pos e0, show ppT x mem ctx = (((numB (bitsOf 2) 1 2 ++ numB (bitsOf 2) 1 2) ++ cB x) ++ endB x) from by unfold ppT; (first | rw [if_pos (by assumption), ← i6 (by omega)] | rw [if_neg (by assumption)]); simp only [List.flatten_cons, List.flatten_nil, List.append_assoc, List.append_nil]]
      exact (show OwnB _ _ _ _ from o4).lo (by omega)
theorem kH (n : Int) (w : World) : Rets Tryd.prog 60 [.int .i64 n] w (fun v w' => v = .bool (decide (n = 1) || decide (n = 2) || decide (n = 4) || decide (n = 8)) ∧ w = w') := by
 refine ad Tryd.func60 rfl (by decide) Tryd.ntmps60 rfl (fun fin _ hfin => ?_)
 refine aY (aX (oga rfl rfl (aZ (aY (aX (ogm rfl rfl ?_))))))
 refine a4 (bF rfl rfl) rfl ?_
 refine ogm rfl rfl (al 5 false rfl (fun c1 hgc1 => ?_))
 refine a5 [(0, _)] (aa rfl rfl rfl hgc1) ⟨au rfl, trivial⟩ (fun hw1 => av rfl) rfl ?_
 refine a5 [(6, _)] (aa rfl rfl rfl hgc1) ⟨ae rfl, trivial⟩ (fun hw2 => bF rfl rfl) rfl ?_
 refine a4 (bi rfl rfl hgc1) rfl ?_
 refine ogm rfl rfl (al 9 false rfl (fun c2 hgc2 => ?_))
 refine a5 [(0, _)] (aa rfl rfl rfl hgc2) ⟨au rfl, trivial⟩ (fun hw3 => av rfl) rfl ?_
 refine a5 [(10, _)] (aa rfl rfl rfl hgc2) ⟨ae rfl, trivial⟩ (fun hw4 => bF rfl rfl) rfl ?_
 refine a4 (bi rfl rfl hgc2) rfl ?_
 refine ogm rfl rfl (al 13 false rfl (fun c3 hgc3 => ?_))
 refine a5 [(0, _)] (aa rfl rfl rfl hgc3) ⟨au rfl, trivial⟩ (fun hw5 => av rfl) rfl ?_
 refine a5 [(14, _)] (aa rfl rfl rfl hgc3) ⟨ae rfl, trivial⟩ (fun hw6 => bF rfl rfl) rfl ?_
 refine a4 (bi rfl rfl hgc3) rfl ?_
 refine oga rfl rfl (aZ (af hfin Tryd.results60 rfl ?_))
 exact ⟨rfl, rfl⟩
theorem jV (p at_ : Nat) (bs : List UInt8) (bw : Value) (e size : Int) (w : World) (h : RdA w p bs bw at_ e) (hs : size = 1 ∨ size = 2 ∨ size = 4 ∨ size = 8) : Rets Tryd.prog 37 [.pointer (some ⟨p, 0, none⟩), .int .i64 size] w (fun v w' => ∃ r a2, r = rNum (bitsOf size) (bs.drop at_) e size ∧ v = .int .i64 r.1 ∧ RdA w' p bs bw a2 r.2.2 ∧ r.2.1 = bs.drop a2 ∧ Keep [p] w w') := by
 obtain ⟨hb, hr, hn, hal, hbl⟩ := h
 have hB : Keep [p] w w := Keep.refl _ _
 have hcap := hr.vcap
 have hdl : (bs.drop at_).length = bs.length - at_ := List.length_drop
 have hg0 : gb bs (at_ : Int) = (((bs.drop at_).getD 0 0).toNat : Int) := by unfold gb; rw [List.getD_eq_getElem?_getD, List.getD_eq_getElem?_getD, List.getElem?_drop, Int.toNat_natCast, Nat.add_zero]
 have hgr := f6 bs (at_ : Int)
 have hsz : (decide (size = 1) || decide (size = 2) || decide (size = 4) || decide (size = 8)) = true := by rcases hs with rfl | rfl | rfl | rfl <;> decide
 have hbits : ¬ bitsOf size < 0 := by rcases hs with rfl | rfl | rfl | rfl <;> decide
 refine ad Tryd.func37 rfl (by decide) Tryd.ntmps37 rfl (fun fin _ hfin => ?_)
 refine aY (aX (oga rfl rfl (aZ (aY (ag (aY ?_))))))
 refine aX (ogm rfl rfl (a4 (ai rfl) rfl ?_))
 refine a4 (ay aG rfl bJ (by decide) rfl) rfl ?_
 refine a4 (ac bZ rfl hb rfl) rfl ?_
 refine a4 (cC rfl rfl) rfl ?_
 refine oga rfl rfl (aZ (ar rfl (fun hc1 => ?_) (fun hc1 => ?_)))
 ·
  refine aY (aX (oga rfl rfl (aZ (af hfin Tryd.results37 rfl ?_))))
  refine ⟨(0, bs.drop at_, e), at_, ?_, rfl, ⟨hb, hr, hn, by omega, hbl⟩, rfl, hB⟩
  unfold rNum
  repeat (first | rw [if_pos ‹_›] | rw [if_neg ‹_›] | rw [if_pos (by omega)] | rw [if_neg (by omega)])
  all_goals first | rfl | (refine Prod.ext rfl (Prod.ext rfl ?_); show _ = _; dsimp only; omega)
 ·
  refine aY (aX (ogm rfl rfl (ah (a7 (vs := [_]) rfl (kH _ _)) rfl ?_)))
  rintro _ _ ⟨rfl, rfl⟩
  refine a4 (dq rfl) rfl ?_
  refine oga rfl rfl (aZ (ib rfl (by rw [hsz]; rfl) ?_))
  refine aY (aX (ogm rfl rfl (ah (a7 (vs := [_]) rfl (dk _ _ _ _ (by exact ⟨bs, at_, bw, by assumption, by assumption, hn, hal, rfl, hbl⟩))) rfl ?_)))
  rintro _ w1 ⟨rfl, k1⟩
  have z_k1 := k1.size
  replace hb := hb.lh k1
  replace hr := hr.lh k1
  replace hB := hB.trans k1.weak
  refine ogm rfl rfl (a4 (bO rfl rfl) rfl ?_)
  refine oga rfl rfl (aZ (ar rfl (fun hc2 => ?_) (fun hc2 => ?_)))
  ·
   refine aY (aX (ogm rfl rfl (a4 (ai rfl) rfl ?_)))
   refine a4 (ay aG rfl bJ (by decide) rfl) rfl ?_
   refine am (bQ bJ rfl rfl rfl hb rfl) ?_
   rintro _ w2 ⟨hb1, k2, z1⟩
   have z_k2 := k2.size
   replace hr := hr.keep k2 (fun x hx hm => Nat.ne_of_lt (hn x hx) (List.mem_singleton.1 hm))
   replace hB := hB.trans k2
   refine aZ (aY (aX (oga rfl rfl (aZ (af hfin Tryd.results37 rfl ?_)))))
   refine ⟨(0, bs.drop at_, 20), at_, ?_, rfl, ⟨hb1, hr, hn, by omega, hbl⟩, rfl, hB⟩
   unfold rNum
   repeat (first | rw [if_pos ‹_›] | rw [if_neg ‹_›] | rw [if_pos (by omega)] | rw [if_neg (by omega)])
   all_goals first | rfl | (refine Prod.ext rfl (Prod.ext rfl ?_); show _ = _; dsimp only; omega)
  ·
   refine aY (fE mixed (by decide +kernel) (fun w3 k3 => ?_))
   have z_k3 := k3.size
   replace hb := hb.lh k3
   replace hr := hr.lh k3
   replace hB := hB.trans k3.weak
   refine dI (av rfl) rfl (dI (bF rfl rfl) rfl ?_)
   refine dI (av rfl) rfl (sw_grp 30 true rfl (fun c1 hgc1 => ?_))
   refine en [(0, _)] (aa rfl rfl rfl hgc1) ⟨au rfl, trivial⟩ (fun hw1 => av rfl) rfl ?_
   refine en [(31, _)] (aa rfl rfl rfl hgc1) ⟨ae rfl, trivial⟩ (fun hw2 => ai rfl) rfl ?_
   refine en [(32, _)] (aa rfl rfl rfl hgc1) ⟨ae rfl, trivial⟩ (fun hw3 => ay aG rfl az (by decide) rfl) rfl ?_
   refine en [(33, _)] (aa rfl rfl rfl hgc1) ⟨ae rfl, trivial⟩ (fun hw4 => ac ba rfl hb rfl) rfl ?_
   refine en [(0, _)] (aa rfl rfl rfl hgc1) ⟨au rfl, trivial⟩ (fun hw5 => av rfl) rfl ?_
   refine en [(35, _)] (aa rfl rfl rfl hgc1) ⟨ae rfl, trivial⟩ (fun hw6 => ai rfl) rfl ?_
   refine en [(36, _)] (aa rfl rfl rfl hgc1) ⟨ae rfl, trivial⟩ (fun hw7 => ay aG rfl bJ (by decide) rfl) rfl ?_
   refine en [(37, _)] (aa rfl rfl rfl hgc1) ⟨ae rfl, trivial⟩ (fun hw8 => ac bZ rfl hb rfl) rfl ?_
   refine en [(34, _), (38, _)] (aa rfl rfl rfl hgc1) ⟨ae rfl, ae rfl, trivial⟩ (fun hw9 => bR aA bu rfl (by first | assumption | exact Own.rd ‹_› | exact Rd.lh ‹_› hB | exact Own.rd (Own.lh ‹_› hB)) rfl (by omega)) rfl ?_
   refine en [(39, _)] (aa rfl rfl rfl hgc1) ⟨ae rfl, trivial⟩ (fun hw10 => eK jR rfl (by first | assumption | exact Own.rd ‹_› | exact Rd.lh ‹_› hB | exact Own.rd (Own.lh ‹_› hB)) (by omega)) rfl ?_
   refine en [(40, _)] (aa rfl rfl rfl hgc1) ⟨ae rfl, trivial⟩ (fun hw11 => fA rfl rfl) rfl ?_
   refine dI (ax rfl rfl hgc1) rfl ?_
   refine dI (ft rfl) rfl (gZ ?_)
   refine aZ (bH rfl (fun hc3 => ?_) (fun hc3 => ?_))
   ·
    have hd1 := hc3
    try (simp only [Bool.and_eq_true, Bool.or_eq_true, decide_eq_true_eq, Bool.and_eq_false_iff, Bool.or_eq_false_iff, decide_eq_false_iff_not, Bool.not_eq_true', Bool.not_eq_false', Bool.not_eq_true, Bool.not_eq_false, ne_eq, Decidable.not_not, decide_true, decide_false, Bool.true_and, Bool.false_and, Bool.or_false, Bool.false_or, not_true_eq_false, false_or, or_false, true_and, and_true, not_false_eq_true, reduceCtorEq] at hd1)
    refine aY (aX (ogm rfl rfl (a4 (ai rfl) rfl ?_)))
    refine a4 (ay aG rfl bJ (by decide) rfl) rfl ?_
    refine am (bQ bJ rfl rfl rfl hb rfl) ?_
    rintro _ w4 ⟨hb2, k4, z2⟩
    have z_k4 := k4.size
    replace hr := hr.keep k4 (fun x hx hm => Nat.ne_of_lt (hn x hx) (List.mem_singleton.1 hm))
    replace hB := hB.trans k4
    refine aZ (aY (aX (oga rfl rfl (aZ (af hfin Tryd.results37 rfl ?_)))))
    refine ⟨(0, bs.drop at_, 11), at_, ?_, rfl, ⟨hb2, hr, hn, by omega, hbl⟩, rfl, hB⟩
    unfold rNum
    repeat (first | rw [if_pos ‹_›] | rw [if_neg ‹_›] | rw [if_pos (by omega)] | rw [if_neg (by omega)])
    all_goals first | rfl | (refine Prod.ext rfl (Prod.ext rfl ?_); show _ = _; dsimp only; omega)
   ·
    have hd2 := hc3
    try (simp only [Bool.and_eq_true, Bool.or_eq_true, decide_eq_true_eq, Bool.and_eq_false_iff, Bool.or_eq_false_iff, decide_eq_false_iff_not, Bool.not_eq_true', Bool.not_eq_false', Bool.not_eq_true, Bool.not_eq_false, ne_eq, Decidable.not_not, decide_true, decide_false, Bool.true_and, Bool.false_and, Bool.or_false, Bool.false_or, not_true_eq_false, false_or, or_false, true_and, and_true, not_false_eq_true, reduceCtorEq] at hd2)
    refine a8 (bg (aY (aX (ogm rfl rfl (ogm rfl rfl (ah (a7 (vs := [_, _]) rfl (fX _ (bs.drop at_) e _ _ (by exact ⟨bs, at_, bw, by assumption, by assumption, hn, hal, rfl, hbl⟩) (by omega) (by omega))) rfl ?_))))))
    rintro _ w5 ⟨rfl, k5⟩
    have z_k5 := k5.size
    replace hb := hb.lh k5
    replace hr := hr.lh k5
    replace hB := hB.trans k5.weak
    refine oga rfl rfl (aZ (aY (aX (ogm rfl rfl (ogm rfl rfl (a4 (ai rfl) rfl ?_))))))
    refine a4 (ay aG rfl bJ (by decide) rfl) rfl ?_
    refine a4 (ac bZ rfl hb rfl) rfl ?_
    refine ogm rfl rfl (a4 (br rfl rfl (by omega)) rfl ?_)
    refine a4 (ai rfl) rfl ?_
    refine a4 (ay aG rfl bJ (by decide) rfl) rfl ?_
    refine am (bQ bJ rfl rfl rfl hb rfl) ?_
    rintro _ w6 ⟨hb3, k6, z3⟩
    have z_k6 := k6.size
    replace hr := hr.keep k6 (fun x hx hm => Nat.ne_of_lt (hn x hx) (List.mem_singleton.1 hm))
    replace hB := hB.trans k6
    refine aZ (aY (aX (ogm rfl rfl (oga rfl rfl (aZ (af hfin Tryd.results37 rfl ?_))))))
    rw [show ((at_ : Int) + size) = ((at_ + size.toNat : Nat) : Int) from by omega] at hb3
    refine ⟨((num ((bs.drop at_).take size.toNat)), (bs.drop at_).drop size.toNat, e), at_ + size.toNat, ?_, rfl, ⟨hb3, hr, hn, by omega, hbl⟩, List.drop_drop, hB⟩
    unfold rNum
    repeat (first | rw [if_pos ‹_›] | rw [if_neg ‹_›] | rw [if_pos (by omega)] | rw [if_neg (by omega)])
    all_goals first | rfl | (refine Prod.ext rfl (Prod.ext rfl ?_); show _ = _; dsimp only; omega)
theorem dE (p : Nat) (rest : List UInt8) (e size : Int) (w : World) (h : RdR w p rest e) (hs : size = 1 ∨ size = 2 ∨ size = 4 ∨ size = 8) : Rets Tryd.prog 37 [.pointer (some ⟨p, 0, none⟩), .int .i64 size] w (fun v w' => ∃ r, r = rNum (bitsOf size) rest e size ∧ v = .int .i64 r.1 ∧ RdR w' p r.2.1 r.2.2 ∧ Keep [p] w w') := by
  obtain ⟨bs, bw, at_, rfl, h2⟩ := h.rdA
  refine (jV p at_ bs bw e size w h2 hs).mono ?_
  rintro v w' ⟨r, a2, h1, h2, h3, h4, h5⟩
  exact ⟨r, h1, h2, h4 ▸ h3.rdR, h5⟩
theorem dM {c : List UInt8} : gpOkP c = true ↔ (rH c).1 = 65537 ∧ rEnd (rT c).2.1 (rT c).2.2 = 0 ∧ sOk (rX c) = true ∧ ((rFr c).1 = 1 → ((rT c).1.length : Int) = 32) := by
 unfold gpOkP
 simp only [Bool.and_eq_true, Bool.or_eq_true, Bool.not_eq_true', decide_eq_true_eq, decide_eq_false_iff_not, and_assoc]
 by_cases h : (rFr c).1 = 1 <;> simp [h]
theorem kO (v : Value) (c : List UInt8) (w : World) (hv : RdB w v c) (hcl : c.length ≤ 140737488351232) : Rets Tryd.prog 11 [v] w (fun r w' => ∃ g m b sg cf tg, r = .tuple #[.agg [g, .int .i64 (gpX c).ep, .int .i64 (gpX c).fr, .int .i64 (gpX c).lf, m, .int .i64 (gpX c).kd, b, .int .i64 (gpX c).wi, sg, cf].toArray, tg, .int .i64 (gpF c)] ∧ OwnB w' w.heap.size g (gpX c).gs ∧ OwnB w' w.heap.size m (gpX c).ms ∧ OwnB w' w.heap.size b (gpX c).bs ∧ OwnB w' w.heap.size sg (gpX c).ss ∧ OwnB w' w.heap.size cf (gpX c).cs ∧ OwnB w' w.heap.size tg (gpT c) ∧ Keep [] w w') := by
 have hB : Keep [] w w := Keep.refl _ _
 obtain ⟨n1, n2, n3, n4, n5, n6, n7, n8, n9, n10⟩ := fpLen c
 refine ad Tryd.func11 rfl (by decide) Tryd.ntmps11 rfl (fun fin _ hfin => ?_)
 refine aY (aX (ah (cI bc) rfl ?_))
 rintro _ w1 ⟨b1, rfl, eb1, hb1, k1, z1⟩
 have ge_b1 : w.heap.size ≤ b1 := by have := hB.size; omega
 replace hB := hB.trans k1
 clear eb1 z1
 refine oga rfl rfl (oga rfl rfl (aZ (aY (aX (ogm rfl rfl ?_)))))
 have zb1 := hb1.lt
 have hs8 := hB.size
 refine ah (a7 (vs := [_]) rfl (kN _ c _ (hv.lh hB) (by omega))) rfl ?_
 rintro _ w2 ⟨p1, rfl, rr, k2⟩
 replace hb1 := hb1.lh k2
 replace hB := hB.trans k2
 have gp1 := rr.1
 replace rr := rr.rdr
 refine oga rfl rfl (aZ (aY (aX (ogm rfl rfl ?_))))
 have lv_km1 := rr.lt
 refine ah (a7 (vs := [_, _]) rfl (dE p1 c 0 4 _ rr (by decide))) rfl ?_
 rintro _ w3 ⟨q1, hq1, rfl, rr, km1⟩
 rw [show bitsOf 4 = 32 from by decide] at hq1
 subst hq1
 have z_km1 := km1.size
 replace hb1 := hb1.keep km1 (fun hm => by have h9 := List.mem_singleton.1 hm; omega)
 replace hB := hB.new km1 (fun x hm => .inl (by have h9 := List.mem_singleton.1 hm; omega))
 have rr : RdR w3 p1 (rH c).2.1 (rH c).2.2 := rr
 show OW _ _ _ _ _ _ ((13, .int .i64 (rH c).1) :: _) _
 refine oga rfl rfl (aZ (aY (aX (a4 (cL (idx := [1]) (xs := [.const (.int .i64 (1))]) (vs := [_]) (css := [[_]]) (out := [_, _, _, _, _, _, _, _, _, _]) iT bc rfl rfl ⟨rfl, trivial⟩ rfl rfl) rfl ?_))))
 have lt7 := rr.lt
 refine ah (cI bc) rfl ?_
 rintro _ w4 ⟨b2, rfl, eb2, hb2, k3, z2⟩
 have zp7 : p1 < b2 := by omega
 have ge_b2 : w.heap.size ≤ b2 := by have := hB.size; omega
 have ne_b1_b2 : b1 ≠ b2 := by have := hb1.lt; omega
 replace hb1 := hb1.lh k3
 replace rr := rr.lh k3
 replace hB := hB.trans k3
 clear eb2 z2
 refine am (bU bc rfl rfl rfl (by simp only [List.forall_mem_cons]; exact ⟨rfl, rfl, rfl, rfl, rfl, rfl, rfl, rfl, rfl, rfl, fun v hv => by cases hv⟩) hb2 rfl) ?_
 rintro _ w5 ⟨hb3, k4, z3⟩
 replace hb1 := hb1.keep k4 (nm ne_b1_b2)
 replace rr := rr.keep k4 (fun x hx hm => (fun x (hx : x ≤ p1) => (show x ≠ b2 from by omega)) x hx (List.mem_singleton.1 hm))
 replace hB := hB.new k4 (nw ge_b2)
 clear z3
 replace hb3 : Bk w5 b2 _ [.slice none 0 0, .int .i64 0, .int .i64 0, .int .i64 0, .slice none 0 0, .int .i64 0, .slice none 0 0, .int .i64 1, .slice none 0 0, .slice none 0 0] := hb3
 refine aZ (aY (aX (a4 (aj 0 aL rfl ej (by decide) rfl rfl) rfl ?_)))
 refine oga rfl rfl (aZ (aY (aX (ogm rfl rfl (ogm rfl rfl ?_)))))
 have lv_km2 := rr.lt
 refine ah (a7 (vs := [_]) rfl (bo p1 (rH c).2.1 (rH c).2.2 _ rr)) rfl ?_
 rintro v1 w6 ⟨_, rfl, o1, rr, km2⟩
 have gl_o1 := hB.size
 have sb_b1_o1 := fun x hx => (show x ≠ b1 from by have h1 := (o1.blk x hx).1; have h2 := hb1.lt; omega)
 have sb_b2_o1 := fun x hx => (show x ≠ b2 from by have h1 := (o1.blk x hx).1; have h2 := hb3.lt; omega)
 have z_km2 := km2.size
 replace hb1 := hb1.keep km2 (fun hm => by have h9 := List.mem_singleton.1 hm; omega)
 replace hb3 := hb3.keep km2 (fun hm => by have h9 := List.mem_singleton.1 hm; omega)
 replace hB := hB.new km2 (fun x hm => .inl (by have h9 := List.mem_singleton.1 hm; omega))
 have rr : RdR w6 p1 (rG c).2.1 (rG c).2.2 := rr
 replace o1 : OwnB w6 w5.heap.size v1 (rG c).1 := o1
 refine a4 (ai rfl) rfl ?_
 refine a4 (aj 0 aB rfl az (by decide) rfl rfl) rfl ?_
 refine am (bQ az rfl rfl (Rd.one (by first | assumption | exact Own.rd ‹_› | exact Rd.lh ‹_› hB | exact Own.rd (Own.lh ‹_› hB))) hb3 rfl) ?_
 rintro _ w7 ⟨hb4, k5, z4⟩
 replace hb1 := hb1.keep k5 (nm ne_b1_b2)
 replace rr := rr.keep k5 (fun x hx hm => (fun x (hx : x ≤ p1) => (show x ≠ b2 from by omega)) x hx (List.mem_singleton.1 hm))
 replace o1 := o1.keep k5 (fun x hx hm => sb_b2_o1 x hx (List.mem_singleton.1 hm))
 replace hB := hB.new k5 (nw ge_b2)
 clear z4
 replace hb4 : Bk w7 b2 _ [v1, .int .i64 0, .int .i64 0, .int .i64 0, .slice none 0 0, .int .i64 0, .slice none 0 0, .int .i64 1, .slice none 0 0, .slice none 0 0] := hb4
 refine aZ (ab [(2, _), (5, _), (6, _), (7, _), (8, _)] ⟨rfl, rfl, rfl, rfl, rfl, trivial⟩ ?_)
 refine aY (aX (ogm rfl rfl (ogm rfl rfl ?_)))
 have lv_km3 := rr.lt
 refine ah (a7 (vs := [_, _]) rfl (dE p1 (rG c).2.1 (rG c).2.2 8 _ rr (by decide))) rfl ?_
 rintro _ w8 ⟨q2, hq2, rfl, rr, km3⟩
 rw [show bitsOf 8 = 62 from by decide] at hq2
 subst hq2
 have z_km3 := km3.size
 replace hb1 := hb1.keep km3 (fun hm => by have h9 := List.mem_singleton.1 hm; omega)
 replace o1 := o1.keep km3 (fun x hx hm => by have h9 := List.mem_singleton.1 hm; have h8 := (o1.blk x hx).1; omega)
 replace hb4 := hb4.keep km3 (fun hm => by have h9 := List.mem_singleton.1 hm; omega)
 replace hB := hB.new km3 (fun x hm => .inl (by have h9 := List.mem_singleton.1 hm; omega))
 have rr : RdR w8 p1 (rEp c).2.1 (rEp c).2.2 := rr
 show OW _ _ _ _ _ _ ((23, .int .i64 (rEp c).1) :: _) _
 refine a4 (ai rfl) rfl ?_
 refine a4 (aj 1 aB rfl bJ (by decide) rfl rfl) rfl ?_
 refine am (bQ bJ rfl rfl rfl hb4 rfl) ?_
 rintro _ w9 ⟨hb5, k6, z5⟩
 replace hb1 := hb1.keep k6 (nm ne_b1_b2)
 replace rr := rr.keep k6 (fun x hx hm => (fun x (hx : x ≤ p1) => (show x ≠ b2 from by omega)) x hx (List.mem_singleton.1 hm))
 replace o1 := o1.keep k6 (fun x hx hm => sb_b2_o1 x hx (List.mem_singleton.1 hm))
 replace hB := hB.new k6 (nw ge_b2)
 clear z5
 replace hb5 : Bk w9 b2 _ [v1, .int .i64 (rEp c).1, .int .i64 0, .int .i64 0, .slice none 0 0, .int .i64 0, .slice none 0 0, .int .i64 1, .slice none 0 0, .slice none 0 0] := hb5
 refine aZ (aY (aX (ogm rfl rfl (ogm rfl rfl ?_))))
 have lv_km4 := rr.lt
 refine ah (a7 (vs := [_, _]) rfl (dE p1 (rEp c).2.1 (rEp c).2.2 1 _ rr (by decide))) rfl ?_
 rintro _ w10 ⟨q3, hq3, rfl, rr, km4⟩
 rw [show bitsOf 1 = 8 from by decide] at hq3
 subst hq3
 have z_km4 := km4.size
 replace hb1 := hb1.keep km4 (fun hm => by have h9 := List.mem_singleton.1 hm; omega)
 replace o1 := o1.keep km4 (fun x hx hm => by have h9 := List.mem_singleton.1 hm; have h8 := (o1.blk x hx).1; omega)
 replace hb5 := hb5.keep km4 (fun hm => by have h9 := List.mem_singleton.1 hm; omega)
 replace hB := hB.new km4 (fun x hm => .inl (by have h9 := List.mem_singleton.1 hm; omega))
 have rr : RdR w10 p1 (rFr c).2.1 (rFr c).2.2 := rr
 show OW _ _ _ _ _ _ ((28, .int .i64 (rFr c).1) :: _) _
 refine a4 (ai rfl) rfl ?_
 refine a4 (aj 2 aB rfl bJ (by decide) rfl rfl) rfl ?_
 refine am (bQ bJ rfl rfl rfl hb5 rfl) ?_
 rintro _ w11 ⟨hb6, k7, z6⟩
 replace hb1 := hb1.keep k7 (nm ne_b1_b2)
 replace rr := rr.keep k7 (fun x hx hm => (fun x (hx : x ≤ p1) => (show x ≠ b2 from by omega)) x hx (List.mem_singleton.1 hm))
 replace o1 := o1.keep k7 (fun x hx hm => sb_b2_o1 x hx (List.mem_singleton.1 hm))
 replace hB := hB.new k7 (nw ge_b2)
 clear z6
 replace hb6 : Bk w11 b2 _ [v1, .int .i64 (rEp c).1, .int .i64 (rFr c).1, .int .i64 0, .slice none 0 0, .int .i64 0, .slice none 0 0, .int .i64 1, .slice none 0 0, .slice none 0 0] := hb6
 refine aZ (ab [(2, _), (5, _), (6, _), (7, _), (8, _)] ⟨rfl, rfl, rfl, rfl, rfl, trivial⟩ ?_)
 refine aY (aY (aX (ogm rfl rfl (a4 (ai rfl) rfl ?_))))
 refine a4 (aj 2 aB rfl bJ (by decide) rfl rfl) rfl ?_
 refine a4 (ac bZ rfl hb6 rfl) rfl ?_
 refine a4 (bF rfl rfl) rfl ?_
 refine aZ (ar rfl (fun hc1 => ?_) (fun hc1 => ?_))
 ·
  refine aX (ogm rfl rfl (ogm rfl rfl ?_))
  have lv_km5 := rr.lt
  refine ah (a7 (vs := [_, _]) rfl (dE p1 (rFr c).2.1 (rFr c).2.2 4 _ rr (by decide))) rfl ?_
  rintro _ w12 ⟨q4, hq4, rfl, rr, km5⟩
  rw [show bitsOf 4 = 32 from by decide] at hq4
  subst hq4
  have z_km5 := km5.size
  replace hb1 := hb1.keep km5 (fun hm => by have h9 := List.mem_singleton.1 hm; omega)
  replace o1 := o1.keep km5 (fun x hx hm => by have h9 := List.mem_singleton.1 hm; have h8 := (o1.blk x hx).1; omega)
  replace hb6 := hb6.keep km5 (fun hm => by have h9 := List.mem_singleton.1 hm; omega)
  replace hB := hB.new km5 (fun x hm => .inl (by have h9 := List.mem_singleton.1 hm; omega))
  have e_Lf : rLf c = rNum 32 (rFr c).2.1 (rFr c).2.2 4 := if_pos ‹_›
  have rr : RdR w12 p1 (rLf c).2.1 (rLf c).2.2 := by rw [e_Lf]; exact rr
  suffices hsf : OW _ _ _ _ _ _ ((38, .int .i64 (rLf c).1) :: _) _ by rw [e_Lf] at hsf; exact hsf
  refine a4 (ai rfl) rfl ?_
  refine a4 (aj 3 aB rfl bJ (by decide) rfl rfl) rfl ?_
  refine am (bQ bJ rfl rfl rfl hb6 rfl) ?_
  rintro _ w13 ⟨hb7, k8, z7⟩
  replace hb1 := hb1.keep k8 (nm ne_b1_b2)
  replace rr := rr.keep k8 (fun x hx hm => (fun x (hx : x ≤ p1) => (show x ≠ b2 from by omega)) x hx (List.mem_singleton.1 hm))
  replace o1 := o1.keep k8 (fun x hx hm => sb_b2_o1 x hx (List.mem_singleton.1 hm))
  replace hB := hB.new k8 (nw ge_b2)
  clear z7
  replace hb7 : Bk w13 b2 _ [v1, .int .i64 (rEp c).1, .int .i64 (rFr c).1, .int .i64 (rLf c).1, .slice none 0 0, .int .i64 0, .slice none 0 0, .int .i64 1, .slice none 0 0, .slice none 0 0] := hb7
  refine aZ (ab [(2, _), (5, _), (6, _), (7, _), (8, _)] ⟨rfl, rfl, rfl, rfl, rfl, trivial⟩ ?_)
  refine aY (aX (ogm rfl rfl (ogm rfl rfl ?_)))
  have lv_km6 := rr.lt
  refine ah (a7 (vs := [_]) rfl (bo p1 (rLf c).2.1 (rLf c).2.2 _ rr)) rfl ?_
  rintro v2 w14 ⟨_, rfl, o2, rr, km6⟩
  have gl_o2 := hB.size
  have sb_b1_o2 := fun x hx => (show x ≠ b1 from by have h1 := (o2.blk x hx).1; have h2 := hb1.lt; omega)
  have sb_b2_o2 := fun x hx => (show x ≠ b2 from by have h1 := (o2.blk x hx).1; have h2 := hb7.lt; omega)
  have z_km6 := km6.size
  replace hb1 := hb1.keep km6 (fun hm => by have h9 := List.mem_singleton.1 hm; omega)
  replace o1 := o1.keep km6 (fun x hx hm => by have h9 := List.mem_singleton.1 hm; have h8 := (o1.blk x hx).1; omega)
  replace hb7 := hb7.keep km6 (fun hm => by have h9 := List.mem_singleton.1 hm; omega)
  replace hB := hB.new km6 (fun x hm => .inl (by have h9 := List.mem_singleton.1 hm; omega))
  have rr : RdR w14 p1 (rM c).2.1 (rM c).2.2 := rr
  replace o2 : OwnB w14 w13.heap.size v2 (rM c).1 := o2
  refine a4 (ai rfl) rfl ?_
  refine a4 (aj 4 aB rfl az (by decide) rfl rfl) rfl ?_
  refine am (bQ az rfl rfl (Rd.one (by first | assumption | exact Own.rd ‹_› | exact Rd.lh ‹_› hB | exact Own.rd (Own.lh ‹_› hB))) hb7 rfl) ?_
  rintro _ w15 ⟨hb8, k9, z8⟩
  replace hb1 := hb1.keep k9 (nm ne_b1_b2)
  replace rr := rr.keep k9 (fun x hx hm => (fun x (hx : x ≤ p1) => (show x ≠ b2 from by omega)) x hx (List.mem_singleton.1 hm))
  replace o1 := o1.keep k9 (fun x hx hm => sb_b2_o1 x hx (List.mem_singleton.1 hm))
  replace o2 := o2.keep k9 (fun x hx hm => sb_b2_o2 x hx (List.mem_singleton.1 hm))
  replace hB := hB.new k9 (nw ge_b2)
  clear z8
  replace hb8 : Bk w15 b2 _ [v1, .int .i64 (rEp c).1, .int .i64 (rFr c).1, .int .i64 (rLf c).1, v2, .int .i64 0, .slice none 0 0, .int .i64 1, .slice none 0 0, .slice none 0 0] := hb8
  refine aZ (aY (aX (ogm rfl rfl (ogm rfl rfl ?_))))
  have lv_km7 := rr.lt
  refine ah (a7 (vs := [_, _]) rfl (dE p1 (rM c).2.1 (rM c).2.2 1 _ rr (by decide))) rfl ?_
  rintro _ w16 ⟨q5, hq5, rfl, rr, km7⟩
  rw [show bitsOf 1 = 8 from by decide] at hq5
  subst hq5
  have z_km7 := km7.size
  replace hb1 := hb1.keep km7 (fun hm => by have h9 := List.mem_singleton.1 hm; omega)
  replace o1 := o1.keep km7 (fun x hx hm => by have h9 := List.mem_singleton.1 hm; have h8 := (o1.blk x hx).1; omega)
  replace o2 := o2.keep km7 (fun x hx hm => by have h9 := List.mem_singleton.1 hm; have h8 := (o2.blk x hx).1; omega)
  replace hb8 := hb8.keep km7 (fun hm => by have h9 := List.mem_singleton.1 hm; omega)
  replace hB := hB.new km7 (fun x hm => .inl (by have h9 := List.mem_singleton.1 hm; omega))
  have rr : RdR w16 p1 (rKd c).2.1 (rKd c).2.2 := rr
  show OW _ _ _ _ _ _ ((48, .int .i64 (rKd c).1) :: _) _
  refine a4 (ai rfl) rfl ?_
  refine a4 (aj 5 aB rfl bJ (by decide) rfl rfl) rfl ?_
  refine am (bQ bJ rfl rfl rfl hb8 rfl) ?_
  rintro _ w17 ⟨hb9, k10, z9⟩
  replace hb1 := hb1.keep k10 (nm ne_b1_b2)
  replace rr := rr.keep k10 (fun x hx hm => (fun x (hx : x ≤ p1) => (show x ≠ b2 from by omega)) x hx (List.mem_singleton.1 hm))
  replace o1 := o1.keep k10 (fun x hx hm => sb_b2_o1 x hx (List.mem_singleton.1 hm))
  replace o2 := o2.keep k10 (fun x hx hm => sb_b2_o2 x hx (List.mem_singleton.1 hm))
  replace hB := hB.new k10 (nw ge_b2)
  clear z9
  replace hb9 : Bk w17 b2 _ [v1, .int .i64 (rEp c).1, .int .i64 (rFr c).1, .int .i64 (rLf c).1, v2, .int .i64 (rKd c).1, .slice none 0 0, .int .i64 1, .slice none 0 0, .slice none 0 0] := hb9
  refine aZ (ab [(2, _), (5, _), (6, _), (7, _), (8, _)] ⟨rfl, rfl, rfl, rfl, rfl, trivial⟩ ?_)
  refine aY (aX (ogm rfl rfl (ogm rfl rfl ?_)))
  have lv_km8 := rr.lt
  refine ah (a7 (vs := [_]) rfl (bo p1 (rKd c).2.1 (rKd c).2.2 _ rr)) rfl ?_
  rintro v3 w18 ⟨_, rfl, o3, rr, km8⟩
  have gl_o3 := hB.size
  have sb_b1_o3 := fun x hx => (show x ≠ b1 from by have h1 := (o3.blk x hx).1; have h2 := hb1.lt; omega)
  have sb_b2_o3 := fun x hx => (show x ≠ b2 from by have h1 := (o3.blk x hx).1; have h2 := hb9.lt; omega)
  have z_km8 := km8.size
  replace hb1 := hb1.keep km8 (fun hm => by have h9 := List.mem_singleton.1 hm; omega)
  replace o1 := o1.keep km8 (fun x hx hm => by have h9 := List.mem_singleton.1 hm; have h8 := (o1.blk x hx).1; omega)
  replace o2 := o2.keep km8 (fun x hx hm => by have h9 := List.mem_singleton.1 hm; have h8 := (o2.blk x hx).1; omega)
  replace hb9 := hb9.keep km8 (fun hm => by have h9 := List.mem_singleton.1 hm; omega)
  replace hB := hB.new km8 (fun x hm => .inl (by have h9 := List.mem_singleton.1 hm; omega))
  have rr : RdR w18 p1 (rB c).2.1 (rB c).2.2 := rr
  replace o3 : OwnB w18 w17.heap.size v3 (rB c).1 := o3
  refine a4 (ai rfl) rfl ?_
  refine a4 (aj 6 aB rfl az (by decide) rfl rfl) rfl ?_
  refine am (bQ az rfl rfl (Rd.one (by first | assumption | exact Own.rd ‹_› | exact Rd.lh ‹_› hB | exact Own.rd (Own.lh ‹_› hB))) hb9 rfl) ?_
  rintro _ w19 ⟨hb10, k11, z10⟩
  replace hb1 := hb1.keep k11 (nm ne_b1_b2)
  replace rr := rr.keep k11 (fun x hx hm => (fun x (hx : x ≤ p1) => (show x ≠ b2 from by omega)) x hx (List.mem_singleton.1 hm))
  replace o1 := o1.keep k11 (fun x hx hm => sb_b2_o1 x hx (List.mem_singleton.1 hm))
  replace o2 := o2.keep k11 (fun x hx hm => sb_b2_o2 x hx (List.mem_singleton.1 hm))
  replace o3 := o3.keep k11 (fun x hx hm => sb_b2_o3 x hx (List.mem_singleton.1 hm))
  replace hB := hB.new k11 (nw ge_b2)
  clear z10
  replace hb10 : Bk w19 b2 _ [v1, .int .i64 (rEp c).1, .int .i64 (rFr c).1, .int .i64 (rLf c).1, v2, .int .i64 (rKd c).1, v3, .int .i64 1, .slice none 0 0, .slice none 0 0] := hb10
  refine aZ (aY (aX (ogm rfl rfl ?_)))
  have lv_km9 := rr.lt
  refine ah (a7 (vs := [_]) rfl (bo p1 (rB c).2.1 (rB c).2.2 _ rr)) rfl ?_
  rintro v4 w20 ⟨_, rfl, o4, rr, km9⟩
  have gl_o4 := hB.size
  have sb_b1_o4 := fun x hx => (show x ≠ b1 from by have h1 := (o4.blk x hx).1; have h2 := hb1.lt; omega)
  have sb_b2_o4 := fun x hx => (show x ≠ b2 from by have h1 := (o4.blk x hx).1; have h2 := hb10.lt; omega)
  have z_km9 := km9.size
  replace hb1 := hb1.keep km9 (fun hm => by have h9 := List.mem_singleton.1 hm; omega)
  replace o1 := o1.keep km9 (fun x hx hm => by have h9 := List.mem_singleton.1 hm; have h8 := (o1.blk x hx).1; omega)
  replace o2 := o2.keep km9 (fun x hx hm => by have h9 := List.mem_singleton.1 hm; have h8 := (o2.blk x hx).1; omega)
  replace o3 := o3.keep km9 (fun x hx hm => by have h9 := List.mem_singleton.1 hm; have h8 := (o3.blk x hx).1; omega)
  replace hb10 := hb10.keep km9 (fun hm => by have h9 := List.mem_singleton.1 hm; omega)
  replace hB := hB.new km9 (fun x hm => .inl (by have h9 := List.mem_singleton.1 hm; omega))
  have rr : RdR w20 p1 (rS c).2.1 (rS c).2.2 := rr
  replace o4 : OwnB w20 w19.heap.size v4 (rS c).1 := o4
  refine a4 (aj 8 aL rfl az (by decide) rfl rfl) rfl ?_
  refine am (bQ az rfl rfl (Rd.one (by first | assumption | exact Own.rd ‹_› | exact Rd.lh ‹_› hB | exact Own.rd (Own.lh ‹_› hB))) hb10 rfl) ?_
  rintro _ w21 ⟨hb11, k12, z11⟩
  replace hb1 := hb1.keep k12 (nm ne_b1_b2)
  replace rr := rr.keep k12 (fun x hx hm => (fun x (hx : x ≤ p1) => (show x ≠ b2 from by omega)) x hx (List.mem_singleton.1 hm))
  replace o1 := o1.keep k12 (fun x hx hm => sb_b2_o1 x hx (List.mem_singleton.1 hm))
  replace o2 := o2.keep k12 (fun x hx hm => sb_b2_o2 x hx (List.mem_singleton.1 hm))
  replace o3 := o3.keep k12 (fun x hx hm => sb_b2_o3 x hx (List.mem_singleton.1 hm))
  replace o4 := o4.keep k12 (fun x hx hm => sb_b2_o4 x hx (List.mem_singleton.1 hm))
  replace hB := hB.new k12 (nw ge_b2)
  clear z11
  replace hb11 : Bk w21 b2 _ [v1, .int .i64 (rEp c).1, .int .i64 (rFr c).1, .int .i64 (rLf c).1, v2, .int .i64 (rKd c).1, v3, .int .i64 1, v4, .slice none 0 0] := hb11
  refine aZ (aY (aY (aX (ogm rfl rfl (a4 (ai rfl) rfl ?_)))))
  refine a4 (aj 5 aB rfl bJ (by decide) rfl rfl) rfl ?_
  refine a4 (ac bZ rfl hb11 rfl) rfl ?_
  refine a4 (bF rfl rfl) rfl ?_
  refine aZ (ab [(2, _), (5, _), (6, _), (7, _), (8, _), (63, _)] ⟨rfl, rfl, rfl, rfl, rfl, rfl, trivial⟩ ?_)
  refine ar rfl (fun hc2 => ?_) (fun hc2 => ?_)
  ·
   refine aX (ogm rfl rfl ?_)
   have lv_km10 := rr.lt
   refine ah (a7 (vs := [_]) rfl (bo p1 (rS c).2.1 (rS c).2.2 _ rr)) rfl ?_
   rintro v5 w22 ⟨_, rfl, o5, rr, km10⟩
   have gl_o5 := hB.size
   have sb_b1_o5 := fun x hx => (show x ≠ b1 from by have h1 := (o5.blk x hx).1; have h2 := hb1.lt; omega)
   have sb_b2_o5 := fun x hx => (show x ≠ b2 from by have h1 := (o5.blk x hx).1; have h2 := hb11.lt; omega)
   have z_km10 := km10.size
   replace hb1 := hb1.keep km10 (fun hm => by have h9 := List.mem_singleton.1 hm; omega)
   replace o1 := o1.keep km10 (fun x hx hm => by have h9 := List.mem_singleton.1 hm; have h8 := (o1.blk x hx).1; omega)
   replace o2 := o2.keep km10 (fun x hx hm => by have h9 := List.mem_singleton.1 hm; have h8 := (o2.blk x hx).1; omega)
   replace o3 := o3.keep km10 (fun x hx hm => by have h9 := List.mem_singleton.1 hm; have h8 := (o3.blk x hx).1; omega)
   replace o4 := o4.keep km10 (fun x hx hm => by have h9 := List.mem_singleton.1 hm; have h8 := (o4.blk x hx).1; omega)
   replace hb11 := hb11.keep km10 (fun hm => by have h9 := List.mem_singleton.1 hm; omega)
   replace hB := hB.new km10 (fun x hm => .inl (by have h9 := List.mem_singleton.1 hm; omega))
   have e_C : rC c = rVec (rS c).2.1 (rS c).2.2 := if_pos ‹_›
   have rr : RdR w22 p1 (rC c).2.1 (rC c).2.2 := by rw [e_C]; exact rr
   replace o5 : OwnB w22 w21.heap.size v5 (rC c).1 := by rw [e_C]; exact o5
   refine a4 (aj 9 aL rfl az (by decide) rfl rfl) rfl ?_
   refine am (bQ az rfl rfl (Rd.one (by first | assumption | exact Own.rd ‹_› | exact Rd.lh ‹_› hB | exact Own.rd (Own.lh ‹_› hB))) hb11 rfl) ?_
   rintro _ w23 ⟨hb12, k13, z12⟩
   replace hb1 := hb1.keep k13 (nm ne_b1_b2)
   replace rr := rr.keep k13 (fun x hx hm => (fun x (hx : x ≤ p1) => (show x ≠ b2 from by omega)) x hx (List.mem_singleton.1 hm))
   replace o1 := o1.keep k13 (fun x hx hm => sb_b2_o1 x hx (List.mem_singleton.1 hm))
   replace o2 := o2.keep k13 (fun x hx hm => sb_b2_o2 x hx (List.mem_singleton.1 hm))
   replace o3 := o3.keep k13 (fun x hx hm => sb_b2_o3 x hx (List.mem_singleton.1 hm))
   replace o4 := o4.keep k13 (fun x hx hm => sb_b2_o4 x hx (List.mem_singleton.1 hm))
   replace o5 := o5.keep k13 (fun x hx hm => sb_b2_o5 x hx (List.mem_singleton.1 hm))
   replace hB := hB.new k13 (nw ge_b2)
   clear z12
   replace hb12 : Bk w23 b2 _ [v1, .int .i64 (rEp c).1, .int .i64 (rFr c).1, .int .i64 (rLf c).1, v2, .int .i64 (rKd c).1, v3, .int .i64 1, v4, v5] := hb12
   refine aZ (aY (aX (oga rfl rfl (aZ (aY (aY ?_))))))
   refine aX (ogm rfl rfl (a4 (ai rfl) rfl ?_))
   refine a4 (aj 2 aB rfl bJ (by decide) rfl rfl) rfl ?_
   refine a4 (ac bZ rfl hb12 rfl) rfl ?_
   refine a4 (bF rfl rfl) rfl ?_
   refine aZ (ar rfl (fun hc3 => ?_) (fun hc3 => ?_))
   ·
    refine aX (ogm rfl rfl ?_)
    have lv_km11 := rr.lt
    refine ah (a7 (vs := [_]) rfl (bo p1 (rC c).2.1 (rC c).2.2 _ rr)) rfl ?_
    rintro v6 w24 ⟨_, rfl, o6, rr, km11⟩
    have gl_o6 := hB.size
    have sb_b1_o6 := fun x hx => (show x ≠ b1 from by have h1 := (o6.blk x hx).1; have h2 := hb1.lt; omega)
    have z_km11 := km11.size
    replace hb1 := hb1.keep km11 (fun hm => by have h9 := List.mem_singleton.1 hm; omega)
    replace o1 := o1.keep km11 (fun x hx hm => by have h9 := List.mem_singleton.1 hm; have h8 := (o1.blk x hx).1; omega)
    replace o2 := o2.keep km11 (fun x hx hm => by have h9 := List.mem_singleton.1 hm; have h8 := (o2.blk x hx).1; omega)
    replace o3 := o3.keep km11 (fun x hx hm => by have h9 := List.mem_singleton.1 hm; have h8 := (o3.blk x hx).1; omega)
    replace o4 := o4.keep km11 (fun x hx hm => by have h9 := List.mem_singleton.1 hm; have h8 := (o4.blk x hx).1; omega)
    replace o5 := o5.keep km11 (fun x hx hm => by have h9 := List.mem_singleton.1 hm; have h8 := (o5.blk x hx).1; omega)
    replace hb12 := hb12.keep km11 (fun hm => by have h9 := List.mem_singleton.1 hm; omega)
    replace hB := hB.new km11 (fun x hm => .inl (by have h9 := List.mem_singleton.1 hm; omega))
    have e_T : rT c = rVec (rC c).2.1 (rC c).2.2 := if_pos ‹_›
    have rr : RdR w24 p1 (rT c).2.1 (rT c).2.2 := by rw [e_T]; exact rr
    replace o6 : OwnB w24 w23.heap.size v6 (rT c).1 := by rw [e_T]; exact o6
    refine oga rfl rfl (aZ (ab [(2, _), (5, _), (6, _), (7, _), (8, _), (9, _)] ⟨rfl, rfl, rfl, rfl, rfl, rfl, trivial⟩ ?_))
    refine aY (aY (aX (ogm rfl rfl (ah (a7 (vs := [_]) rfl (dW _ _ _ _ rr)) rfl ?_))))
    rintro _ w25 ⟨rfl, k14⟩
    replace hb1 := hb1.lh k14
    replace rr := rr.lh k14
    replace o1 := o1.lh k14
    replace o2 := o2.lh k14
    replace o3 := o3.lh k14
    replace o4 := o4.lh k14
    replace o5 := o5.lh k14
    replace hb12 := hb12.lh k14
    replace o6 := o6.lh k14
    replace hB := hB.trans k14
    refine a4 (cC rfl rfl) rfl ?_
    refine ogm rfl rfl (al 77 false rfl (fun c1 hgc1 => ?_))
    refine a5 [(6, _)] (aa rfl rfl rfl hgc1) ⟨au rfl, trivial⟩ (fun hw1 => av rfl) rfl ?_
    refine a5 [(78, _)] (aa rfl rfl rfl hgc1) ⟨ae rfl, trivial⟩ (fun hw2 => cC rfl rfl) rfl ?_
    refine a4 (bi rfl rfl hgc1) rfl ?_
    refine ogm rfl rfl (al 81 false rfl (fun c2 hgc2 => ?_))
    refine a5 [(7, _)] (aa rfl rfl rfl hgc2) ⟨au rfl, trivial⟩ (fun hw3 => an (cs' := [_, _, _, _, _, _, _, _, _, _]) cd bc rfl hb12 rfl rfl) rfl ?_
    refine cQ [(82, _)] (aa rfl rfl rfl hgc2) ⟨ae rfl, trivial⟩ (fun hw4 => a7 (vs := [_]) rfl (cj _ _ _ _ _ (rX c) _ o1.rd o2.rd o3.rd o4.rd o5.rd)) rfl ?_
    rintro w27 k16
    replace hb1 := hb1.lh k16
    replace o1 := o1.lh k16
    replace o2 := o2.lh k16
    replace o3 := o3.lh k16
    replace o4 := o4.lh k16
    replace o5 := o5.lh k16
    replace hb12 := hb12.lh k16
    replace o6 := o6.lh k16
    replace hB := hB.trans k16
    refine a5 [(83, _)] (aa rfl rfl rfl hgc2) ⟨ae rfl, trivial⟩ (fun hw5 => dq rfl) rfl ?_
    refine a4 (bi rfl rfl hgc2) rfl ?_
    refine ogm rfl rfl (al 86 false rfl (fun c3 hgc3 => ?_))
    refine a5 [(8, _)] (aa rfl rfl rfl hgc3) ⟨au rfl, trivial⟩ (fun hw6 => av rfl) rfl ?_
    refine a5 [(87, _)] (aa rfl rfl rfl hgc3) ⟨ae rfl, trivial⟩ (fun hw7 => ai rfl) rfl ?_
    refine a5 [(88, _)] (aa rfl rfl rfl hgc3) ⟨ae rfl, trivial⟩ (fun hw8 => aj 2 aB rfl bJ (by decide) rfl rfl) rfl ?_
    refine a5 [(89, _)] (aa rfl rfl rfl hgc3) ⟨ae rfl, trivial⟩ (fun hw9 => ac bZ rfl hb12 rfl) rfl ?_
    refine a5 [(90, _)] (aa rfl rfl rfl hgc3) ⟨ae rfl, trivial⟩ (fun hw10 => bF rfl rfl) rfl ?_
    refine a5 [(91, _)] (aa rfl rfl rfl hgc3) ⟨ae rfl, trivial⟩ (fun hw11 => av rfl) rfl ?_
    refine cl 92 true rfl (fun c4 hgc4 => ?_)
    refine a5 [(9, _)] (cc rfl rfl rfl hgc4) ⟨au rfl, trivial⟩ (fun hw12 => av rfl) rfl ?_
    refine a5 [(93, _)] (cc rfl rfl rfl hgc4) ⟨ae rfl, trivial⟩ (fun hw13 => bI aA rfl o6.rd) rfl ?_
    refine a5 [(94, _)] (cc rfl rfl rfl hgc4) ⟨ae rfl, trivial⟩ (fun hw14 => cC rfl rfl) rfl ?_
    refine ck (aa rfl rfl rfl hgc3) (ae rfl) rfl hgc4 rfl ?_
    refine a4 (bi rfl rfl hgc3) rfl ?_
    refine aZ (ab [(2, _), (7, _), (9, _), (97, _)] ⟨rfl, rfl, rfl, rfl, trivial⟩ ?_)
    refine bH rfl (fun hc4 => ?_) (fun hc4 => ?_)
    ·
     have hd1 := hc4
     try (simp only [Bool.and_eq_true, Bool.or_eq_true, decide_eq_true_eq, Bool.and_eq_false_iff, Bool.or_eq_false_iff, decide_eq_false_iff_not, Bool.not_eq_true', Bool.not_eq_false', Bool.not_eq_true, Bool.not_eq_false, ne_eq, Decidable.not_not, decide_true, decide_false, Bool.true_and, Bool.false_and, Bool.or_false, Bool.false_or, not_true_eq_false, false_or, or_false, true_and, and_true, not_false_eq_true, reduceCtorEq] at hd1)
     refine aY (aX (a4 (cL (idx := []) (xs := []) (vs := []) (css := []) (out := [_, _, _, _, _, _, _, _, _, _]) iT bc rfl rfl trivial rfl rfl) rfl ?_))
     refine am (bU bc rfl rfl rfl (by simp only [List.forall_mem_cons]; exact ⟨rfl, rfl, rfl, rfl, rfl, rfl, rfl, rfl, rfl, rfl, fun v hv => by cases hv⟩) hb1 rfl) ?_
     rintro _ w28 ⟨hb13, k17, z13⟩
     replace o1 := o1.keep k17 (fun x hx hm => sb_b1_o1 x hx (List.mem_singleton.1 hm))
     replace o2 := o2.keep k17 (fun x hx hm => sb_b1_o2 x hx (List.mem_singleton.1 hm))
     replace o3 := o3.keep k17 (fun x hx hm => sb_b1_o3 x hx (List.mem_singleton.1 hm))
     replace o4 := o4.keep k17 (fun x hx hm => sb_b1_o4 x hx (List.mem_singleton.1 hm))
     replace o5 := o5.keep k17 (fun x hx hm => sb_b1_o5 x hx (List.mem_singleton.1 hm))
     replace hb12 := hb12.keep k17 (nm (Ne.symm ne_b1_b2))
     replace o6 := o6.keep k17 (fun x hx hm => sb_b1_o6 x hx (List.mem_singleton.1 hm))
     replace hB := hB.new k17 (nw ge_b1)
     clear z13
     replace hb13 : Bk w28 b1 _ [.slice none 0 0, .int .i64 0, .int .i64 0, .int .i64 0, .slice none 0 0, .int .i64 0, .slice none 0 0, .int .i64 0, .slice none 0 0, .slice none 0 0] := hb13
     refine oga rfl rfl (oga rfl rfl (aZ (bB hfin Tryd.results11 rfl (ao cd bc hb13 rfl) rfl rfl ?_)))
     have hg : gpOkP c = false := by
      rw [← Bool.not_eq_true, dM]; rintro ⟨q1, q2, q3, q4⟩; simp_all
     have eX : gpX c = fJ := by unfold gpX; rw [hg]; rfl
     have eT : gpT c = [] := by unfold gpT; rw [hg]; rfl
     have eF : gpF c = 21 := by unfold gpF; rw [hg]; rfl
     rw [eX, eT, eF]
     exact ⟨_, _, _, _, _, _, rfl, a9 _ _ _ _, a9 _ _ _ _, a9 _ _ _ _, a9 _ _ _ _, a9 _ _ _ _, a9 _ _ _ _, hB⟩
    ·
     have hd2 := hc4
     try (simp only [Bool.and_eq_true, Bool.or_eq_true, decide_eq_true_eq, Bool.and_eq_false_iff, Bool.or_eq_false_iff, decide_eq_false_iff_not, Bool.not_eq_true', Bool.not_eq_false', Bool.not_eq_true, Bool.not_eq_false, ne_eq, Decidable.not_not, decide_true, decide_false, Bool.true_and, Bool.false_and, Bool.or_false, Bool.false_or, not_true_eq_false, false_or, or_false, true_and, and_true, not_false_eq_true, reduceCtorEq] at hd2)
     refine a8 (aY (aX (a4 (an (cs' := [_, _, _, _, _, _, _, _, _, _]) cd bc rfl hb12 rfl rfl) rfl ?_)))
     refine ogm rfl rfl (am (bU bc rfl rfl rfl (by simp only [List.forall_mem_cons]; exact ⟨o1.rd.one, rfl, rfl, rfl, o2.rd.one, rfl, o3.rd.one, rfl, o4.rd.one, o5.rd.one, fun v hv => by cases hv⟩) hb1 rfl) ?_)
     rintro _ w29 ⟨hb14, k18, z14⟩
     replace o1 := o1.keep k18 (fun x hx hm => sb_b1_o1 x hx (List.mem_singleton.1 hm))
     replace o2 := o2.keep k18 (fun x hx hm => sb_b1_o2 x hx (List.mem_singleton.1 hm))
     replace o3 := o3.keep k18 (fun x hx hm => sb_b1_o3 x hx (List.mem_singleton.1 hm))
     replace o4 := o4.keep k18 (fun x hx hm => sb_b1_o4 x hx (List.mem_singleton.1 hm))
     replace o5 := o5.keep k18 (fun x hx hm => sb_b1_o5 x hx (List.mem_singleton.1 hm))
     replace hb12 := hb12.keep k18 (nm (Ne.symm ne_b1_b2))
     replace o6 := o6.keep k18 (fun x hx hm => sb_b1_o6 x hx (List.mem_singleton.1 hm))
     replace hB := hB.new k18 (nw ge_b1)
     clear z14
     replace hb14 : Bk w29 b1 _ [v1, .int .i64 (rEp c).1, .int .i64 (rFr c).1, .int .i64 (rLf c).1, v2, .int .i64 (rKd c).1, v3, .int .i64 1, v4, v5] := hb14
     refine oga rfl rfl (oga rfl rfl (aZ (bB hfin Tryd.results11 rfl (ao cd bc hb14 rfl) rfl rfl ?_)))
     have hg : gpOkP c = true := by
      rw [dM]; refine ⟨?_, ?_, ?_, ?_⟩ <;> simp_all
     have eX : gpX c = rX c := by unfold gpX; rw [hg]; rfl
     have eT : gpT c = (rT c).1 := by unfold gpT; rw [hg]; rfl
     have eF : gpF c = 0 := by unfold gpF; rw [hg]; rfl
     rw [eX, eT, eF]
     exact ⟨_, _, _, _, _, _, rfl, o1.lo gl_o1, o2.lo gl_o2, o3.lo gl_o3, o4.lo gl_o4, o5.lo gl_o5, o6.lo gl_o6, hB⟩
   ·
    refine a8 (aY (aY (aX ?_)))
    have e_T : rT c = ([], (rC c).2) := if_neg ‹_›
    have rr : RdR w23 p1 (rT c).2.1 (rT c).2.2 := by rw [e_T]; exact rr
    refine ogm rfl rfl (ah (a7 (vs := [_]) rfl (dW _ _ _ _ rr)) rfl ?_)
    rintro _ w30 ⟨rfl, k19⟩
    replace hb1 := hb1.lh k19
    replace rr := rr.lh k19
    replace o1 := o1.lh k19
    replace o2 := o2.lh k19
    replace o3 := o3.lh k19
    replace o4 := o4.lh k19
    replace o5 := o5.lh k19
    replace hb12 := hb12.lh k19
    replace hB := hB.trans k19
    refine a4 (cC rfl rfl) rfl ?_
    refine ogm rfl rfl (al 77 false rfl (fun c5 hgc5 => ?_))
    refine a5 [(6, _)] (aa rfl rfl rfl hgc5) ⟨au rfl, trivial⟩ (fun hw15 => av rfl) rfl ?_
    refine a5 [(78, _)] (aa rfl rfl rfl hgc5) ⟨ae rfl, trivial⟩ (fun hw16 => cC rfl rfl) rfl ?_
    refine a4 (bi rfl rfl hgc5) rfl ?_
    refine ogm rfl rfl (al 81 false rfl (fun c6 hgc6 => ?_))
    refine a5 [(7, _)] (aa rfl rfl rfl hgc6) ⟨au rfl, trivial⟩ (fun hw17 => an (cs' := [_, _, _, _, _, _, _, _, _, _]) cd bc rfl hb12 rfl rfl) rfl ?_
    refine cQ [(82, _)] (aa rfl rfl rfl hgc6) ⟨ae rfl, trivial⟩ (fun hw18 => a7 (vs := [_]) rfl (cj _ _ _ _ _ (rX c) _ o1.rd o2.rd o3.rd o4.rd o5.rd)) rfl ?_
    rintro w32 k21
    replace hb1 := hb1.lh k21
    replace o1 := o1.lh k21
    replace o2 := o2.lh k21
    replace o3 := o3.lh k21
    replace o4 := o4.lh k21
    replace o5 := o5.lh k21
    replace hb12 := hb12.lh k21
    replace hB := hB.trans k21
    refine a5 [(83, _)] (aa rfl rfl rfl hgc6) ⟨ae rfl, trivial⟩ (fun hw19 => dq rfl) rfl ?_
    refine a4 (bi rfl rfl hgc6) rfl ?_
    refine ogm rfl rfl (al 86 false rfl (fun c7 hgc7 => ?_))
    refine a5 [(8, _)] (aa rfl rfl rfl hgc7) ⟨au rfl, trivial⟩ (fun hw20 => av rfl) rfl ?_
    refine a5 [(87, _)] (aa rfl rfl rfl hgc7) ⟨ae rfl, trivial⟩ (fun hw21 => ai rfl) rfl ?_
    refine a5 [(88, _)] (aa rfl rfl rfl hgc7) ⟨ae rfl, trivial⟩ (fun hw22 => aj 2 aB rfl bJ (by decide) rfl rfl) rfl ?_
    refine a5 [(89, _)] (aa rfl rfl rfl hgc7) ⟨ae rfl, trivial⟩ (fun hw23 => ac bZ rfl hb12 rfl) rfl ?_
    refine a5 [(90, _)] (aa rfl rfl rfl hgc7) ⟨ae rfl, trivial⟩ (fun hw24 => bF rfl rfl) rfl ?_
    refine a5 [(91, _)] (aa rfl rfl rfl hgc7) ⟨ae rfl, trivial⟩ (fun hw25 => av rfl) rfl ?_
    refine cl 92 true rfl (fun c8 hgc8 => ?_)
    refine a5 [(9, _)] (cc rfl rfl rfl hgc8) ⟨au rfl, trivial⟩ (fun hw26 => av rfl) rfl ?_
    refine a5 [(93, _)] (cc rfl rfl rfl hgc8) ⟨ae rfl, trivial⟩ (fun hw27 => bI aA rfl (Rd.nil _ 1)) rfl ?_
    refine a5 [(94, _)] (cc rfl rfl rfl hgc8) ⟨ae rfl, trivial⟩ (fun hw28 => cC rfl rfl) rfl ?_
    refine ck (aa rfl rfl rfl hgc7) (ae rfl) rfl hgc8 rfl ?_
    refine a4 (bi rfl rfl hgc7) rfl ?_
    refine aZ (ab [(2, _), (7, _), (9, _), (97, _)] ⟨rfl, rfl, rfl, rfl, trivial⟩ ?_)
    refine bH rfl (fun hc5 => ?_) (fun hc5 => ?_)
    ·
     have hd3 := hc5
     try (simp only [Bool.and_eq_true, Bool.or_eq_true, decide_eq_true_eq, Bool.and_eq_false_iff, Bool.or_eq_false_iff, decide_eq_false_iff_not, Bool.not_eq_true', Bool.not_eq_false', Bool.not_eq_true, Bool.not_eq_false, ne_eq, Decidable.not_not, decide_true, decide_false, Bool.true_and, Bool.false_and, Bool.or_false, Bool.false_or, not_true_eq_false, false_or, or_false, true_and, and_true, not_false_eq_true, reduceCtorEq] at hd3)
     refine aY (aX (a4 (cL (idx := []) (xs := []) (vs := []) (css := []) (out := [_, _, _, _, _, _, _, _, _, _]) iT bc rfl rfl trivial rfl rfl) rfl ?_))
     refine am (bU bc rfl rfl rfl (by simp only [List.forall_mem_cons]; exact ⟨rfl, rfl, rfl, rfl, rfl, rfl, rfl, rfl, rfl, rfl, fun v hv => by cases hv⟩) hb1 rfl) ?_
     rintro _ w33 ⟨hb15, k22, z15⟩
     replace o1 := o1.keep k22 (fun x hx hm => sb_b1_o1 x hx (List.mem_singleton.1 hm))
     replace o2 := o2.keep k22 (fun x hx hm => sb_b1_o2 x hx (List.mem_singleton.1 hm))
     replace o3 := o3.keep k22 (fun x hx hm => sb_b1_o3 x hx (List.mem_singleton.1 hm))
     replace o4 := o4.keep k22 (fun x hx hm => sb_b1_o4 x hx (List.mem_singleton.1 hm))
     replace o5 := o5.keep k22 (fun x hx hm => sb_b1_o5 x hx (List.mem_singleton.1 hm))
     replace hb12 := hb12.keep k22 (nm (Ne.symm ne_b1_b2))
     replace hB := hB.new k22 (nw ge_b1)
     clear z15
     replace hb15 : Bk w33 b1 _ [.slice none 0 0, .int .i64 0, .int .i64 0, .int .i64 0, .slice none 0 0, .int .i64 0, .slice none 0 0, .int .i64 0, .slice none 0 0, .slice none 0 0] := hb15
     refine oga rfl rfl (oga rfl rfl (aZ (bB hfin Tryd.results11 rfl (ao cd bc hb15 rfl) rfl rfl ?_)))
     have hg : gpOkP c = false := by
      rw [← Bool.not_eq_true, dM]; rintro ⟨q1, q2, q3, q4⟩; simp_all
     have eX : gpX c = fJ := by unfold gpX; rw [hg]; rfl
     have eT : gpT c = [] := by unfold gpT; rw [hg]; rfl
     have eF : gpF c = 21 := by unfold gpF; rw [hg]; rfl
     rw [eX, eT, eF]
     exact ⟨_, _, _, _, _, _, rfl, a9 _ _ _ _, a9 _ _ _ _, a9 _ _ _ _, a9 _ _ _ _, a9 _ _ _ _, a9 _ _ _ _, hB⟩
    ·
     have hd4 := hc5
     try (simp only [Bool.and_eq_true, Bool.or_eq_true, decide_eq_true_eq, Bool.and_eq_false_iff, Bool.or_eq_false_iff, decide_eq_false_iff_not, Bool.not_eq_true', Bool.not_eq_false', Bool.not_eq_true, Bool.not_eq_false, ne_eq, Decidable.not_not, decide_true, decide_false, Bool.true_and, Bool.false_and, Bool.or_false, Bool.false_or, not_true_eq_false, false_or, or_false, true_and, and_true, not_false_eq_true, reduceCtorEq] at hd4)
     refine a8 (aY (aX (a4 (an (cs' := [_, _, _, _, _, _, _, _, _, _]) cd bc rfl hb12 rfl rfl) rfl ?_)))
     refine ogm rfl rfl (am (bU bc rfl rfl rfl (by simp only [List.forall_mem_cons]; exact ⟨o1.rd.one, rfl, rfl, rfl, o2.rd.one, rfl, o3.rd.one, rfl, o4.rd.one, o5.rd.one, fun v hv => by cases hv⟩) hb1 rfl) ?_)
     rintro _ w34 ⟨hb16, k23, z16⟩
     replace o1 := o1.keep k23 (fun x hx hm => sb_b1_o1 x hx (List.mem_singleton.1 hm))
     replace o2 := o2.keep k23 (fun x hx hm => sb_b1_o2 x hx (List.mem_singleton.1 hm))
     replace o3 := o3.keep k23 (fun x hx hm => sb_b1_o3 x hx (List.mem_singleton.1 hm))
     replace o4 := o4.keep k23 (fun x hx hm => sb_b1_o4 x hx (List.mem_singleton.1 hm))
     replace o5 := o5.keep k23 (fun x hx hm => sb_b1_o5 x hx (List.mem_singleton.1 hm))
     replace hb12 := hb12.keep k23 (nm (Ne.symm ne_b1_b2))
     replace hB := hB.new k23 (nw ge_b1)
     clear z16
     replace hb16 : Bk w34 b1 _ [v1, .int .i64 (rEp c).1, .int .i64 (rFr c).1, .int .i64 (rLf c).1, v2, .int .i64 (rKd c).1, v3, .int .i64 1, v4, v5] := hb16
     refine oga rfl rfl (oga rfl rfl (aZ (bB hfin Tryd.results11 rfl (ao cd bc hb16 rfl) rfl rfl ?_)))
     have hg : gpOkP c = true := by
      rw [dM]; refine ⟨?_, ?_, ?_, ?_⟩ <;> simp_all
     have eX : gpX c = rX c := by unfold gpX; rw [hg]; rfl
     have eT : gpT c = (rT c).1 := by unfold gpT; rw [hg]; rfl
     have eF : gpF c = 0 := by unfold gpF; rw [hg]; rfl
     rw [eX, eT, eF]
     exact ⟨_, _, _, _, _, _, rfl, o1.lo gl_o1, o2.lo gl_o2, o3.lo gl_o3, o4.lo gl_o4, o5.lo gl_o5, dL (a9 _ _ _ _) (show [] = _ from by rw [e_T]), hB⟩
  ·
   refine a8 (aY (aX ?_))
   have e_C : rC c = ([], (rS c).2) := if_neg ‹_›
   have rr : RdR w21 p1 (rC c).2.1 (rC c).2.2 := by rw [e_C]; exact rr
   refine oga rfl rfl (aZ (aY (aY (aX (ogm rfl rfl (a4 (ai rfl) rfl ?_))))))
   refine a4 (aj 2 aB rfl bJ (by decide) rfl rfl) rfl ?_
   refine a4 (ac bZ rfl hb11 rfl) rfl ?_
   refine a4 (bF rfl rfl) rfl ?_
   refine aZ (ar rfl (fun hc6 => ?_) (fun hc6 => ?_))
   ·
    refine aX (ogm rfl rfl ?_)
    have lv_km12 := rr.lt
    refine ah (a7 (vs := [_]) rfl (bo p1 (rC c).2.1 (rC c).2.2 _ rr)) rfl ?_
    rintro v7 w35 ⟨_, rfl, o7, rr, km12⟩
    have gl_o7 := hB.size
    have sb_b1_o7 := fun x hx => (show x ≠ b1 from by have h1 := (o7.blk x hx).1; have h2 := hb1.lt; omega)
    have z_km12 := km12.size
    replace hb1 := hb1.keep km12 (fun hm => by have h9 := List.mem_singleton.1 hm; omega)
    replace o1 := o1.keep km12 (fun x hx hm => by have h9 := List.mem_singleton.1 hm; have h8 := (o1.blk x hx).1; omega)
    replace o2 := o2.keep km12 (fun x hx hm => by have h9 := List.mem_singleton.1 hm; have h8 := (o2.blk x hx).1; omega)
    replace o3 := o3.keep km12 (fun x hx hm => by have h9 := List.mem_singleton.1 hm; have h8 := (o3.blk x hx).1; omega)
    replace o4 := o4.keep km12 (fun x hx hm => by have h9 := List.mem_singleton.1 hm; have h8 := (o4.blk x hx).1; omega)
    replace hb11 := hb11.keep km12 (fun hm => by have h9 := List.mem_singleton.1 hm; omega)
    replace hB := hB.new km12 (fun x hm => .inl (by have h9 := List.mem_singleton.1 hm; omega))
    have e_T : rT c = rVec (rC c).2.1 (rC c).2.2 := if_pos ‹_›
    have rr : RdR w35 p1 (rT c).2.1 (rT c).2.2 := by rw [e_T]; exact rr
    replace o7 : OwnB w35 w21.heap.size v7 (rT c).1 := by rw [e_T]; exact o7
    refine oga rfl rfl (aZ (aY (aY (aX (ogm rfl rfl (ah (a7 (vs := [_]) rfl (dW _ _ _ _ rr)) rfl ?_))))))
    rintro _ w36 ⟨rfl, k24⟩
    replace hb1 := hb1.lh k24
    replace rr := rr.lh k24
    replace o1 := o1.lh k24
    replace o2 := o2.lh k24
    replace o3 := o3.lh k24
    replace o4 := o4.lh k24
    replace hb11 := hb11.lh k24
    replace o7 := o7.lh k24
    replace hB := hB.trans k24
    refine a4 (cC rfl rfl) rfl ?_
    refine ogm rfl rfl (al 77 false rfl (fun c9 hgc9 => ?_))
    refine a5 [(6, _)] (aa rfl rfl rfl hgc9) ⟨au rfl, trivial⟩ (fun hw29 => av rfl) rfl ?_
    refine a5 [(78, _)] (aa rfl rfl rfl hgc9) ⟨ae rfl, trivial⟩ (fun hw30 => cC rfl rfl) rfl ?_
    refine a4 (bi rfl rfl hgc9) rfl ?_
    refine ogm rfl rfl (al 81 false rfl (fun c10 hgc10 => ?_))
    refine a5 [(7, _)] (aa rfl rfl rfl hgc10) ⟨au rfl, trivial⟩ (fun hw31 => an (cs' := [_, _, _, _, _, _, _, _, _, _]) cd bc rfl hb11 rfl rfl) rfl ?_
    refine cQ [(82, _)] (aa rfl rfl rfl hgc10) ⟨ae rfl, trivial⟩ (fun hw32 => a7 (vs := [_]) rfl (cj _ _ _ _ _ (rX c) _ o1.rd o2.rd o3.rd o4.rd (show RdB _ (.slice none 0 0) _ from by rw [show (rX c).cs = [] from by show (rC c).1 = []; rw [e_C]]; exact Rd.nil _ _))) rfl ?_
    rintro w38 k26
    replace hb1 := hb1.lh k26
    replace o1 := o1.lh k26
    replace o2 := o2.lh k26
    replace o3 := o3.lh k26
    replace o4 := o4.lh k26
    replace hb11 := hb11.lh k26
    replace o7 := o7.lh k26
    replace hB := hB.trans k26
    refine a5 [(83, _)] (aa rfl rfl rfl hgc10) ⟨ae rfl, trivial⟩ (fun hw33 => dq rfl) rfl ?_
    refine a4 (bi rfl rfl hgc10) rfl ?_
    refine ogm rfl rfl (al 86 false rfl (fun c11 hgc11 => ?_))
    refine a5 [(8, _)] (aa rfl rfl rfl hgc11) ⟨au rfl, trivial⟩ (fun hw34 => av rfl) rfl ?_
    refine a5 [(87, _)] (aa rfl rfl rfl hgc11) ⟨ae rfl, trivial⟩ (fun hw35 => ai rfl) rfl ?_
    refine a5 [(88, _)] (aa rfl rfl rfl hgc11) ⟨ae rfl, trivial⟩ (fun hw36 => aj 2 aB rfl bJ (by decide) rfl rfl) rfl ?_
    refine a5 [(89, _)] (aa rfl rfl rfl hgc11) ⟨ae rfl, trivial⟩ (fun hw37 => ac bZ rfl hb11 rfl) rfl ?_
    refine a5 [(90, _)] (aa rfl rfl rfl hgc11) ⟨ae rfl, trivial⟩ (fun hw38 => bF rfl rfl) rfl ?_
    refine a5 [(91, _)] (aa rfl rfl rfl hgc11) ⟨ae rfl, trivial⟩ (fun hw39 => av rfl) rfl ?_
    refine cl 92 true rfl (fun c12 hgc12 => ?_)
    refine a5 [(9, _)] (cc rfl rfl rfl hgc12) ⟨au rfl, trivial⟩ (fun hw40 => av rfl) rfl ?_
    refine a5 [(93, _)] (cc rfl rfl rfl hgc12) ⟨ae rfl, trivial⟩ (fun hw41 => bI aA rfl o7.rd) rfl ?_
    refine a5 [(94, _)] (cc rfl rfl rfl hgc12) ⟨ae rfl, trivial⟩ (fun hw42 => cC rfl rfl) rfl ?_
    refine ck (aa rfl rfl rfl hgc11) (ae rfl) rfl hgc12 rfl ?_
    refine a4 (bi rfl rfl hgc11) rfl ?_
    refine aZ (ab [(2, _), (7, _), (9, _), (97, _)] ⟨rfl, rfl, rfl, rfl, trivial⟩ ?_)
    refine bH rfl (fun hc7 => ?_) (fun hc7 => ?_)
    ·
     have hd5 := hc7
     try (simp only [Bool.and_eq_true, Bool.or_eq_true, decide_eq_true_eq, Bool.and_eq_false_iff, Bool.or_eq_false_iff, decide_eq_false_iff_not, Bool.not_eq_true', Bool.not_eq_false', Bool.not_eq_true, Bool.not_eq_false, ne_eq, Decidable.not_not, decide_true, decide_false, Bool.true_and, Bool.false_and, Bool.or_false, Bool.false_or, not_true_eq_false, false_or, or_false, true_and, and_true, not_false_eq_true, reduceCtorEq] at hd5)
     refine aY (aX (a4 (cL (idx := []) (xs := []) (vs := []) (css := []) (out := [_, _, _, _, _, _, _, _, _, _]) iT bc rfl rfl trivial rfl rfl) rfl ?_))
     refine am (bU bc rfl rfl rfl (by simp only [List.forall_mem_cons]; exact ⟨rfl, rfl, rfl, rfl, rfl, rfl, rfl, rfl, rfl, rfl, fun v hv => by cases hv⟩) hb1 rfl) ?_
     rintro _ w39 ⟨hb17, k27, z17⟩
     replace o1 := o1.keep k27 (fun x hx hm => sb_b1_o1 x hx (List.mem_singleton.1 hm))
     replace o2 := o2.keep k27 (fun x hx hm => sb_b1_o2 x hx (List.mem_singleton.1 hm))
     replace o3 := o3.keep k27 (fun x hx hm => sb_b1_o3 x hx (List.mem_singleton.1 hm))
     replace o4 := o4.keep k27 (fun x hx hm => sb_b1_o4 x hx (List.mem_singleton.1 hm))
     replace hb11 := hb11.keep k27 (nm (Ne.symm ne_b1_b2))
     replace o7 := o7.keep k27 (fun x hx hm => sb_b1_o7 x hx (List.mem_singleton.1 hm))
     replace hB := hB.new k27 (nw ge_b1)
     clear z17
     replace hb17 : Bk w39 b1 _ [.slice none 0 0, .int .i64 0, .int .i64 0, .int .i64 0, .slice none 0 0, .int .i64 0, .slice none 0 0, .int .i64 0, .slice none 0 0, .slice none 0 0] := hb17
     refine oga rfl rfl (oga rfl rfl (aZ (bB hfin Tryd.results11 rfl (ao cd bc hb17 rfl) rfl rfl ?_)))
     have hg : gpOkP c = false := by
      rw [← Bool.not_eq_true, dM]; rintro ⟨q1, q2, q3, q4⟩; simp_all
     have eX : gpX c = fJ := by unfold gpX; rw [hg]; rfl
     have eT : gpT c = [] := by unfold gpT; rw [hg]; rfl
     have eF : gpF c = 21 := by unfold gpF; rw [hg]; rfl
     rw [eX, eT, eF]
     exact ⟨_, _, _, _, _, _, rfl, a9 _ _ _ _, a9 _ _ _ _, a9 _ _ _ _, a9 _ _ _ _, a9 _ _ _ _, a9 _ _ _ _, hB⟩
    ·
     have hd6 := hc7
     try (simp only [Bool.and_eq_true, Bool.or_eq_true, decide_eq_true_eq, Bool.and_eq_false_iff, Bool.or_eq_false_iff, decide_eq_false_iff_not, Bool.not_eq_true', Bool.not_eq_false', Bool.not_eq_true, Bool.not_eq_false, ne_eq, Decidable.not_not, decide_true, decide_false, Bool.true_and, Bool.false_and, Bool.or_false, Bool.false_or, not_true_eq_false, false_or, or_false, true_and, and_true, not_false_eq_true, reduceCtorEq] at hd6)
     refine a8 (aY (aX (a4 (an (cs' := [_, _, _, _, _, _, _, _, _, _]) cd bc rfl hb11 rfl rfl) rfl ?_)))
     refine ogm rfl rfl (am (bU bc rfl rfl rfl (by simp only [List.forall_mem_cons]; exact ⟨o1.rd.one, rfl, rfl, rfl, o2.rd.one, rfl, o3.rd.one, rfl, o4.rd.one, rfl, fun v hv => by cases hv⟩) hb1 rfl) ?_)
     rintro _ w40 ⟨hb18, k28, z18⟩
     replace o1 := o1.keep k28 (fun x hx hm => sb_b1_o1 x hx (List.mem_singleton.1 hm))
     replace o2 := o2.keep k28 (fun x hx hm => sb_b1_o2 x hx (List.mem_singleton.1 hm))
     replace o3 := o3.keep k28 (fun x hx hm => sb_b1_o3 x hx (List.mem_singleton.1 hm))
     replace o4 := o4.keep k28 (fun x hx hm => sb_b1_o4 x hx (List.mem_singleton.1 hm))
     replace hb11 := hb11.keep k28 (nm (Ne.symm ne_b1_b2))
     replace o7 := o7.keep k28 (fun x hx hm => sb_b1_o7 x hx (List.mem_singleton.1 hm))
     replace hB := hB.new k28 (nw ge_b1)
     clear z18
     replace hb18 : Bk w40 b1 _ [v1, .int .i64 (rEp c).1, .int .i64 (rFr c).1, .int .i64 (rLf c).1, v2, .int .i64 (rKd c).1, v3, .int .i64 1, v4, .slice none 0 0] := hb18
     refine oga rfl rfl (oga rfl rfl (aZ (bB hfin Tryd.results11 rfl (ao cd bc hb18 rfl) rfl rfl ?_)))
     have hg : gpOkP c = true := by
      rw [dM]; refine ⟨?_, ?_, ?_, ?_⟩ <;> simp_all
     have eX : gpX c = rX c := by unfold gpX; rw [hg]; rfl
     have eT : gpT c = (rT c).1 := by unfold gpT; rw [hg]; rfl
     have eF : gpF c = 0 := by unfold gpF; rw [hg]; rfl
     rw [eX, eT, eF]
     exact ⟨_, _, _, _, _, _, rfl, o1.lo gl_o1, o2.lo gl_o2, o3.lo gl_o3, o4.lo gl_o4, dL (a9 _ _ _ _) (show [] = _ from by show [] = (rC c).1; rw [e_C]), o7.lo gl_o7, hB⟩
   ·
    refine a8 (aY (aY (aX ?_)))
    have e_T : rT c = ([], (rC c).2) := if_neg ‹_›
    have rr : RdR w21 p1 (rT c).2.1 (rT c).2.2 := by rw [e_T]; exact rr
    refine ogm rfl rfl (ah (a7 (vs := [_]) rfl (dW _ _ _ _ rr)) rfl ?_)
    rintro _ w41 ⟨rfl, k29⟩
    replace hb1 := hb1.lh k29
    replace rr := rr.lh k29
    replace o1 := o1.lh k29
    replace o2 := o2.lh k29
    replace o3 := o3.lh k29
    replace o4 := o4.lh k29
    replace hb11 := hb11.lh k29
    replace hB := hB.trans k29
    refine a4 (cC rfl rfl) rfl ?_
    refine ogm rfl rfl (al 77 false rfl (fun c13 hgc13 => ?_))
    refine a5 [(6, _)] (aa rfl rfl rfl hgc13) ⟨au rfl, trivial⟩ (fun hw43 => av rfl) rfl ?_
    refine a5 [(78, _)] (aa rfl rfl rfl hgc13) ⟨ae rfl, trivial⟩ (fun hw44 => cC rfl rfl) rfl ?_
    refine a4 (bi rfl rfl hgc13) rfl ?_
    refine ogm rfl rfl (al 81 false rfl (fun c14 hgc14 => ?_))
    refine a5 [(7, _)] (aa rfl rfl rfl hgc14) ⟨au rfl, trivial⟩ (fun hw45 => an (cs' := [_, _, _, _, _, _, _, _, _, _]) cd bc rfl hb11 rfl rfl) rfl ?_
    refine cQ [(82, _)] (aa rfl rfl rfl hgc14) ⟨ae rfl, trivial⟩ (fun hw46 => a7 (vs := [_]) rfl (cj _ _ _ _ _ (rX c) _ o1.rd o2.rd o3.rd o4.rd (show RdB _ (.slice none 0 0) _ from by rw [show (rX c).cs = [] from by show (rC c).1 = []; rw [e_C]]; exact Rd.nil _ _))) rfl ?_
    rintro w43 k31
    replace hb1 := hb1.lh k31
    replace o1 := o1.lh k31
    replace o2 := o2.lh k31
    replace o3 := o3.lh k31
    replace o4 := o4.lh k31
    replace hb11 := hb11.lh k31
    replace hB := hB.trans k31
    refine a5 [(83, _)] (aa rfl rfl rfl hgc14) ⟨ae rfl, trivial⟩ (fun hw47 => dq rfl) rfl ?_
    refine a4 (bi rfl rfl hgc14) rfl ?_
    refine ogm rfl rfl (al 86 false rfl (fun c15 hgc15 => ?_))
    refine a5 [(8, _)] (aa rfl rfl rfl hgc15) ⟨au rfl, trivial⟩ (fun hw48 => av rfl) rfl ?_
    refine a5 [(87, _)] (aa rfl rfl rfl hgc15) ⟨ae rfl, trivial⟩ (fun hw49 => ai rfl) rfl ?_
    refine a5 [(88, _)] (aa rfl rfl rfl hgc15) ⟨ae rfl, trivial⟩ (fun hw50 => aj 2 aB rfl bJ (by decide) rfl rfl) rfl ?_
    refine a5 [(89, _)] (aa rfl rfl rfl hgc15) ⟨ae rfl, trivial⟩ (fun hw51 => ac bZ rfl hb11 rfl) rfl ?_
    refine a5 [(90, _)] (aa rfl rfl rfl hgc15) ⟨ae rfl, trivial⟩ (fun hw52 => bF rfl rfl) rfl ?_
    refine a5 [(91, _)] (aa rfl rfl rfl hgc15) ⟨ae rfl, trivial⟩ (fun hw53 => av rfl) rfl ?_
    refine cl 92 true rfl (fun c16 hgc16 => ?_)
    refine a5 [(9, _)] (cc rfl rfl rfl hgc16) ⟨au rfl, trivial⟩ (fun hw54 => av rfl) rfl ?_
    refine a5 [(93, _)] (cc rfl rfl rfl hgc16) ⟨ae rfl, trivial⟩ (fun hw55 => bI aA rfl (Rd.nil _ 1)) rfl ?_
    refine a5 [(94, _)] (cc rfl rfl rfl hgc16) ⟨ae rfl, trivial⟩ (fun hw56 => cC rfl rfl) rfl ?_
    refine ck (aa rfl rfl rfl hgc15) (ae rfl) rfl hgc16 rfl ?_
    refine a4 (bi rfl rfl hgc15) rfl ?_
    refine aZ (ab [(2, _), (7, _), (9, _), (97, _)] ⟨rfl, rfl, rfl, rfl, trivial⟩ ?_)
    refine bH rfl (fun hc8 => ?_) (fun hc8 => ?_)
    ·
     have hd7 := hc8
     try (simp only [Bool.and_eq_true, Bool.or_eq_true, decide_eq_true_eq, Bool.and_eq_false_iff, Bool.or_eq_false_iff, decide_eq_false_iff_not, Bool.not_eq_true', Bool.not_eq_false', Bool.not_eq_true, Bool.not_eq_false, ne_eq, Decidable.not_not, decide_true, decide_false, Bool.true_and, Bool.false_and, Bool.or_false, Bool.false_or, not_true_eq_false, false_or, or_false, true_and, and_true, not_false_eq_true, reduceCtorEq] at hd7)
     refine aY (aX (a4 (cL (idx := []) (xs := []) (vs := []) (css := []) (out := [_, _, _, _, _, _, _, _, _, _]) iT bc rfl rfl trivial rfl rfl) rfl ?_))
     refine am (bU bc rfl rfl rfl (by simp only [List.forall_mem_cons]; exact ⟨rfl, rfl, rfl, rfl, rfl, rfl, rfl, rfl, rfl, rfl, fun v hv => by cases hv⟩) hb1 rfl) ?_
     rintro _ w44 ⟨hb19, k32, z19⟩
     replace o1 := o1.keep k32 (fun x hx hm => sb_b1_o1 x hx (List.mem_singleton.1 hm))
     replace o2 := o2.keep k32 (fun x hx hm => sb_b1_o2 x hx (List.mem_singleton.1 hm))
     replace o3 := o3.keep k32 (fun x hx hm => sb_b1_o3 x hx (List.mem_singleton.1 hm))
     replace o4 := o4.keep k32 (fun x hx hm => sb_b1_o4 x hx (List.mem_singleton.1 hm))
     replace hb11 := hb11.keep k32 (nm (Ne.symm ne_b1_b2))
     replace hB := hB.new k32 (nw ge_b1)
     clear z19
     replace hb19 : Bk w44 b1 _ [.slice none 0 0, .int .i64 0, .int .i64 0, .int .i64 0, .slice none 0 0, .int .i64 0, .slice none 0 0, .int .i64 0, .slice none 0 0, .slice none 0 0] := hb19
     refine oga rfl rfl (oga rfl rfl (aZ (bB hfin Tryd.results11 rfl (ao cd bc hb19 rfl) rfl rfl ?_)))
     have hg : gpOkP c = false := by
      rw [← Bool.not_eq_true, dM]; rintro ⟨q1, q2, q3, q4⟩; simp_all
     have eX : gpX c = fJ := by unfold gpX; rw [hg]; rfl
     have eT : gpT c = [] := by unfold gpT; rw [hg]; rfl
     have eF : gpF c = 21 := by unfold gpF; rw [hg]; rfl
     rw [eX, eT, eF]
     exact ⟨_, _, _, _, _, _, rfl, a9 _ _ _ _, a9 _ _ _ _, a9 _ _ _ _, a9 _ _ _ _, a9 _ _ _ _, a9 _ _ _ _, hB⟩
    ·
     have hd8 := hc8
     try (simp only [Bool.and_eq_true, Bool.or_eq_true, decide_eq_true_eq, Bool.and_eq_false_iff, Bool.or_eq_false_iff, decide_eq_false_iff_not, Bool.not_eq_true', Bool.not_eq_false', Bool.not_eq_true, Bool.not_eq_false, ne_eq, Decidable.not_not, decide_true, decide_false, Bool.true_and, Bool.false_and, Bool.or_false, Bool.false_or, not_true_eq_false, false_or, or_false, true_and, and_true, not_false_eq_true, reduceCtorEq] at hd8)
     refine a8 (aY (aX (a4 (an (cs' := [_, _, _, _, _, _, _, _, _, _]) cd bc rfl hb11 rfl rfl) rfl ?_)))
     refine ogm rfl rfl (am (bU bc rfl rfl rfl (by simp only [List.forall_mem_cons]; exact ⟨o1.rd.one, rfl, rfl, rfl, o2.rd.one, rfl, o3.rd.one, rfl, o4.rd.one, rfl, fun v hv => by cases hv⟩) hb1 rfl) ?_)
     rintro _ w45 ⟨hb20, k33, z20⟩
     replace o1 := o1.keep k33 (fun x hx hm => sb_b1_o1 x hx (List.mem_singleton.1 hm))
     replace o2 := o2.keep k33 (fun x hx hm => sb_b1_o2 x hx (List.mem_singleton.1 hm))
     replace o3 := o3.keep k33 (fun x hx hm => sb_b1_o3 x hx (List.mem_singleton.1 hm))
     replace o4 := o4.keep k33 (fun x hx hm => sb_b1_o4 x hx (List.mem_singleton.1 hm))
     replace hb11 := hb11.keep k33 (nm (Ne.symm ne_b1_b2))
     replace hB := hB.new k33 (nw ge_b1)
     clear z20
     replace hb20 : Bk w45 b1 _ [v1, .int .i64 (rEp c).1, .int .i64 (rFr c).1, .int .i64 (rLf c).1, v2, .int .i64 (rKd c).1, v3, .int .i64 1, v4, .slice none 0 0] := hb20
     refine oga rfl rfl (oga rfl rfl (aZ (bB hfin Tryd.results11 rfl (ao cd bc hb20 rfl) rfl rfl ?_)))
     have hg : gpOkP c = true := by
      rw [dM]; refine ⟨?_, ?_, ?_, ?_⟩ <;> simp_all
     have eX : gpX c = rX c := by unfold gpX; rw [hg]; rfl
     have eT : gpT c = (rT c).1 := by unfold gpT; rw [hg]; rfl
     have eF : gpF c = 0 := by unfold gpF; rw [hg]; rfl
     rw [eX, eT, eF]
     exact ⟨_, _, _, _, _, _, rfl, o1.lo gl_o1, o2.lo gl_o2, o3.lo gl_o3, o4.lo gl_o4, dL (a9 _ _ _ _) (show [] = _ from by show [] = (rC c).1; rw [e_C]), dL (a9 _ _ _ _) (show [] = _ from by rw [e_T]), hB⟩
 ·
  refine a8 (aY (aX (ogm rfl rfl (ogm rfl rfl ?_))))
  have e_Lf : rLf c = (0, (rFr c).2) := if_neg ‹_›
  have rr : RdR w11 p1 (rLf c).2.1 (rLf c).2.2 := by rw [e_Lf]; exact rr
  have e_lf0 : (rLf c).1 = 0 := by rw [e_Lf]
  replace hb6 : Bk w11 b2 26 [v1, .int .i64 (rEp c).1, .int .i64 (rFr c).1, .int .i64 (rLf c).1, .slice none 0 0, .int .i64 0, .slice none 0 0, .int .i64 1, .slice none 0 0, .slice none 0 0] := by rw [e_lf0]; exact hb6
  have lv_km13 := rr.lt
  refine ah (a7 (vs := [_]) rfl (bo p1 (rLf c).2.1 (rLf c).2.2 _ rr)) rfl ?_
  rintro v8 w46 ⟨_, rfl, o8, rr, km13⟩
  have gl_o8 := hB.size
  have sb_b1_o8 := fun x hx => (show x ≠ b1 from by have h1 := (o8.blk x hx).1; have h2 := hb1.lt; omega)
  have sb_b2_o8 := fun x hx => (show x ≠ b2 from by have h1 := (o8.blk x hx).1; have h2 := hb6.lt; omega)
  have z_km13 := km13.size
  replace hb1 := hb1.keep km13 (fun hm => by have h9 := List.mem_singleton.1 hm; omega)
  replace o1 := o1.keep km13 (fun x hx hm => by have h9 := List.mem_singleton.1 hm; have h8 := (o1.blk x hx).1; omega)
  replace hb6 := hb6.keep km13 (fun hm => by have h9 := List.mem_singleton.1 hm; omega)
  replace hB := hB.new km13 (fun x hm => .inl (by have h9 := List.mem_singleton.1 hm; omega))
  have rr : RdR w46 p1 (rM c).2.1 (rM c).2.2 := rr
  replace o8 : OwnB w46 w11.heap.size v8 (rM c).1 := o8
  refine a4 (ai rfl) rfl ?_
  refine a4 (aj 4 aB rfl az (by decide) rfl rfl) rfl ?_
  refine am (bQ az rfl rfl (Rd.one (by first | assumption | exact Own.rd ‹_› | exact Rd.lh ‹_› hB | exact Own.rd (Own.lh ‹_› hB))) hb6 rfl) ?_
  rintro _ w47 ⟨hb21, k34, z21⟩
  replace hb1 := hb1.keep k34 (nm ne_b1_b2)
  replace rr := rr.keep k34 (fun x hx hm => (fun x (hx : x ≤ p1) => (show x ≠ b2 from by omega)) x hx (List.mem_singleton.1 hm))
  replace o1 := o1.keep k34 (fun x hx hm => sb_b2_o1 x hx (List.mem_singleton.1 hm))
  replace o8 := o8.keep k34 (fun x hx hm => sb_b2_o8 x hx (List.mem_singleton.1 hm))
  replace hB := hB.new k34 (nw ge_b2)
  clear z21
  replace hb21 : Bk w47 b2 _ [v1, .int .i64 (rEp c).1, .int .i64 (rFr c).1, .int .i64 (rLf c).1, v8, .int .i64 0, .slice none 0 0, .int .i64 1, .slice none 0 0, .slice none 0 0] := hb21
  refine aZ (ab [(2, _), (5, _), (6, _), (7, _), (8, _)] ⟨rfl, rfl, rfl, rfl, rfl, trivial⟩ ?_)
  refine aY (aX (ogm rfl rfl (ogm rfl rfl ?_)))
  have lv_km14 := rr.lt
  refine ah (a7 (vs := [_, _]) rfl (dE p1 (rM c).2.1 (rM c).2.2 1 _ rr (by decide))) rfl ?_
  rintro _ w48 ⟨q6, hq6, rfl, rr, km14⟩
  rw [show bitsOf 1 = 8 from by decide] at hq6
  subst hq6
  have z_km14 := km14.size
  replace hb1 := hb1.keep km14 (fun hm => by have h9 := List.mem_singleton.1 hm; omega)
  replace o1 := o1.keep km14 (fun x hx hm => by have h9 := List.mem_singleton.1 hm; have h8 := (o1.blk x hx).1; omega)
  replace o8 := o8.keep km14 (fun x hx hm => by have h9 := List.mem_singleton.1 hm; have h8 := (o8.blk x hx).1; omega)
  replace hb21 := hb21.keep km14 (fun hm => by have h9 := List.mem_singleton.1 hm; omega)
  replace hB := hB.new km14 (fun x hm => .inl (by have h9 := List.mem_singleton.1 hm; omega))
  have rr : RdR w48 p1 (rKd c).2.1 (rKd c).2.2 := rr
  show OW _ _ _ _ _ _ ((48, .int .i64 (rKd c).1) :: _) _
  refine a4 (ai rfl) rfl ?_
  refine a4 (aj 5 aB rfl bJ (by decide) rfl rfl) rfl ?_
  refine am (bQ bJ rfl rfl rfl hb21 rfl) ?_
  rintro _ w49 ⟨hb22, k35, z22⟩
  replace hb1 := hb1.keep k35 (nm ne_b1_b2)
  replace rr := rr.keep k35 (fun x hx hm => (fun x (hx : x ≤ p1) => (show x ≠ b2 from by omega)) x hx (List.mem_singleton.1 hm))
  replace o1 := o1.keep k35 (fun x hx hm => sb_b2_o1 x hx (List.mem_singleton.1 hm))
  replace o8 := o8.keep k35 (fun x hx hm => sb_b2_o8 x hx (List.mem_singleton.1 hm))
  replace hB := hB.new k35 (nw ge_b2)
  clear z22
  replace hb22 : Bk w49 b2 _ [v1, .int .i64 (rEp c).1, .int .i64 (rFr c).1, .int .i64 (rLf c).1, v8, .int .i64 (rKd c).1, .slice none 0 0, .int .i64 1, .slice none 0 0, .slice none 0 0] := hb22
  refine aZ (aY (aX (ogm rfl rfl (ogm rfl rfl ?_))))
  have lv_km15 := rr.lt
  refine ah (a7 (vs := [_]) rfl (bo p1 (rKd c).2.1 (rKd c).2.2 _ rr)) rfl ?_
  rintro v9 w50 ⟨_, rfl, o9, rr, km15⟩
  have gl_o9 := hB.size
  have sb_b1_o9 := fun x hx => (show x ≠ b1 from by have h1 := (o9.blk x hx).1; have h2 := hb1.lt; omega)
  have sb_b2_o9 := fun x hx => (show x ≠ b2 from by have h1 := (o9.blk x hx).1; have h2 := hb22.lt; omega)
  have z_km15 := km15.size
  replace hb1 := hb1.keep km15 (fun hm => by have h9 := List.mem_singleton.1 hm; omega)
  replace o1 := o1.keep km15 (fun x hx hm => by have h9 := List.mem_singleton.1 hm; have h8 := (o1.blk x hx).1; omega)
  replace o8 := o8.keep km15 (fun x hx hm => by have h9 := List.mem_singleton.1 hm; have h8 := (o8.blk x hx).1; omega)
  replace hb22 := hb22.keep km15 (fun hm => by have h9 := List.mem_singleton.1 hm; omega)
  replace hB := hB.new km15 (fun x hm => .inl (by have h9 := List.mem_singleton.1 hm; omega))
  have rr : RdR w50 p1 (rB c).2.1 (rB c).2.2 := rr
  replace o9 : OwnB w50 w49.heap.size v9 (rB c).1 := o9
  refine a4 (ai rfl) rfl ?_
  refine a4 (aj 6 aB rfl az (by decide) rfl rfl) rfl ?_
  refine am (bQ az rfl rfl (Rd.one (by first | assumption | exact Own.rd ‹_› | exact Rd.lh ‹_› hB | exact Own.rd (Own.lh ‹_› hB))) hb22 rfl) ?_
  rintro _ w51 ⟨hb23, k36, z23⟩
  replace hb1 := hb1.keep k36 (nm ne_b1_b2)
  replace rr := rr.keep k36 (fun x hx hm => (fun x (hx : x ≤ p1) => (show x ≠ b2 from by omega)) x hx (List.mem_singleton.1 hm))
  replace o1 := o1.keep k36 (fun x hx hm => sb_b2_o1 x hx (List.mem_singleton.1 hm))
  replace o8 := o8.keep k36 (fun x hx hm => sb_b2_o8 x hx (List.mem_singleton.1 hm))
  replace o9 := o9.keep k36 (fun x hx hm => sb_b2_o9 x hx (List.mem_singleton.1 hm))
  replace hB := hB.new k36 (nw ge_b2)
  clear z23
  replace hb23 : Bk w51 b2 _ [v1, .int .i64 (rEp c).1, .int .i64 (rFr c).1, .int .i64 (rLf c).1, v8, .int .i64 (rKd c).1, v9, .int .i64 1, .slice none 0 0, .slice none 0 0] := hb23
  refine aZ (ab [(2, _), (5, _), (6, _), (7, _), (8, _)] ⟨rfl, rfl, rfl, rfl, rfl, trivial⟩ ?_)
  refine aY (aX (ogm rfl rfl ?_))
  have lv_km16 := rr.lt
  refine ah (a7 (vs := [_]) rfl (bo p1 (rB c).2.1 (rB c).2.2 _ rr)) rfl ?_
  rintro v10 w52 ⟨_, rfl, o10, rr, km16⟩
  have gl_o10 := hB.size
  have sb_b1_o10 := fun x hx => (show x ≠ b1 from by have h1 := (o10.blk x hx).1; have h2 := hb1.lt; omega)
  have sb_b2_o10 := fun x hx => (show x ≠ b2 from by have h1 := (o10.blk x hx).1; have h2 := hb23.lt; omega)
  have z_km16 := km16.size
  replace hb1 := hb1.keep km16 (fun hm => by have h9 := List.mem_singleton.1 hm; omega)
  replace o1 := o1.keep km16 (fun x hx hm => by have h9 := List.mem_singleton.1 hm; have h8 := (o1.blk x hx).1; omega)
  replace o8 := o8.keep km16 (fun x hx hm => by have h9 := List.mem_singleton.1 hm; have h8 := (o8.blk x hx).1; omega)
  replace o9 := o9.keep km16 (fun x hx hm => by have h9 := List.mem_singleton.1 hm; have h8 := (o9.blk x hx).1; omega)
  replace hb23 := hb23.keep km16 (fun hm => by have h9 := List.mem_singleton.1 hm; omega)
  replace hB := hB.new km16 (fun x hm => .inl (by have h9 := List.mem_singleton.1 hm; omega))
  have rr : RdR w52 p1 (rS c).2.1 (rS c).2.2 := rr
  replace o10 : OwnB w52 w51.heap.size v10 (rS c).1 := o10
  refine a4 (aj 8 aL rfl az (by decide) rfl rfl) rfl ?_
  refine am (bQ az rfl rfl (Rd.one (by first | assumption | exact Own.rd ‹_› | exact Rd.lh ‹_› hB | exact Own.rd (Own.lh ‹_› hB))) hb23 rfl) ?_
  rintro _ w53 ⟨hb24, k37, z24⟩
  replace hb1 := hb1.keep k37 (nm ne_b1_b2)
  replace rr := rr.keep k37 (fun x hx hm => (fun x (hx : x ≤ p1) => (show x ≠ b2 from by omega)) x hx (List.mem_singleton.1 hm))
  replace o1 := o1.keep k37 (fun x hx hm => sb_b2_o1 x hx (List.mem_singleton.1 hm))
  replace o8 := o8.keep k37 (fun x hx hm => sb_b2_o8 x hx (List.mem_singleton.1 hm))
  replace o9 := o9.keep k37 (fun x hx hm => sb_b2_o9 x hx (List.mem_singleton.1 hm))
  replace o10 := o10.keep k37 (fun x hx hm => sb_b2_o10 x hx (List.mem_singleton.1 hm))
  replace hB := hB.new k37 (nw ge_b2)
  clear z24
  replace hb24 : Bk w53 b2 _ [v1, .int .i64 (rEp c).1, .int .i64 (rFr c).1, .int .i64 (rLf c).1, v8, .int .i64 (rKd c).1, v9, .int .i64 1, v10, .slice none 0 0] := hb24
  refine aZ (aY (aY (aX (ogm rfl rfl (a4 (ai rfl) rfl ?_)))))
  refine a4 (aj 5 aB rfl bJ (by decide) rfl rfl) rfl ?_
  refine a4 (ac bZ rfl hb24 rfl) rfl ?_
  refine a4 (bF rfl rfl) rfl ?_
  refine aZ (ar rfl (fun hc9 => ?_) (fun hc9 => ?_))
  ·
   refine aX (ogm rfl rfl ?_)
   have lv_km17 := rr.lt
   refine ah (a7 (vs := [_]) rfl (bo p1 (rS c).2.1 (rS c).2.2 _ rr)) rfl ?_
   rintro v11 w54 ⟨_, rfl, o11, rr, km17⟩
   have gl_o11 := hB.size
   have sb_b1_o11 := fun x hx => (show x ≠ b1 from by have h1 := (o11.blk x hx).1; have h2 := hb1.lt; omega)
   have sb_b2_o11 := fun x hx => (show x ≠ b2 from by have h1 := (o11.blk x hx).1; have h2 := hb24.lt; omega)
   have z_km17 := km17.size
   replace hb1 := hb1.keep km17 (fun hm => by have h9 := List.mem_singleton.1 hm; omega)
   replace o1 := o1.keep km17 (fun x hx hm => by have h9 := List.mem_singleton.1 hm; have h8 := (o1.blk x hx).1; omega)
   replace o8 := o8.keep km17 (fun x hx hm => by have h9 := List.mem_singleton.1 hm; have h8 := (o8.blk x hx).1; omega)
   replace o9 := o9.keep km17 (fun x hx hm => by have h9 := List.mem_singleton.1 hm; have h8 := (o9.blk x hx).1; omega)
   replace o10 := o10.keep km17 (fun x hx hm => by have h9 := List.mem_singleton.1 hm; have h8 := (o10.blk x hx).1; omega)
   replace hb24 := hb24.keep km17 (fun hm => by have h9 := List.mem_singleton.1 hm; omega)
   replace hB := hB.new km17 (fun x hm => .inl (by have h9 := List.mem_singleton.1 hm; omega))
   have e_C : rC c = rVec (rS c).2.1 (rS c).2.2 := if_pos ‹_›
   have rr : RdR w54 p1 (rC c).2.1 (rC c).2.2 := by rw [e_C]; exact rr
   replace o11 : OwnB w54 w53.heap.size v11 (rC c).1 := by rw [e_C]; exact o11
   refine a4 (aj 9 aL rfl az (by decide) rfl rfl) rfl ?_
   refine am (bQ az rfl rfl (Rd.one (by first | assumption | exact Own.rd ‹_› | exact Rd.lh ‹_› hB | exact Own.rd (Own.lh ‹_› hB))) hb24 rfl) ?_
   rintro _ w55 ⟨hb25, k38, z25⟩
   replace hb1 := hb1.keep k38 (nm ne_b1_b2)
   replace rr := rr.keep k38 (fun x hx hm => (fun x (hx : x ≤ p1) => (show x ≠ b2 from by omega)) x hx (List.mem_singleton.1 hm))
   replace o1 := o1.keep k38 (fun x hx hm => sb_b2_o1 x hx (List.mem_singleton.1 hm))
   replace o8 := o8.keep k38 (fun x hx hm => sb_b2_o8 x hx (List.mem_singleton.1 hm))
   replace o9 := o9.keep k38 (fun x hx hm => sb_b2_o9 x hx (List.mem_singleton.1 hm))
   replace o10 := o10.keep k38 (fun x hx hm => sb_b2_o10 x hx (List.mem_singleton.1 hm))
   replace o11 := o11.keep k38 (fun x hx hm => sb_b2_o11 x hx (List.mem_singleton.1 hm))
   replace hB := hB.new k38 (nw ge_b2)
   clear z25
   replace hb25 : Bk w55 b2 _ [v1, .int .i64 (rEp c).1, .int .i64 (rFr c).1, .int .i64 (rLf c).1, v8, .int .i64 (rKd c).1, v9, .int .i64 1, v10, v11] := hb25
   refine aZ (ab [(2, _), (5, _), (6, _), (7, _), (8, _)] ⟨rfl, rfl, rfl, rfl, rfl, trivial⟩ ?_)
   refine aY (aX (oga rfl rfl (aZ (aY (aY (aX ?_))))))
   refine ogm rfl rfl (a4 (ai rfl) rfl ?_)
   refine a4 (aj 2 aB rfl bJ (by decide) rfl rfl) rfl ?_
   refine a4 (ac bZ rfl hb25 rfl) rfl ?_
   refine a4 (bF rfl rfl) rfl ?_
   refine aZ (ar rfl (fun hc10 => ?_) (fun hc10 => ?_))
   ·
    refine aX (ogm rfl rfl ?_)
    have lv_km18 := rr.lt
    refine ah (a7 (vs := [_]) rfl (bo p1 (rC c).2.1 (rC c).2.2 _ rr)) rfl ?_
    rintro v12 w56 ⟨_, rfl, o12, rr, km18⟩
    have gl_o12 := hB.size
    have sb_b1_o12 := fun x hx => (show x ≠ b1 from by have h1 := (o12.blk x hx).1; have h2 := hb1.lt; omega)
    have z_km18 := km18.size
    replace hb1 := hb1.keep km18 (fun hm => by have h9 := List.mem_singleton.1 hm; omega)
    replace o1 := o1.keep km18 (fun x hx hm => by have h9 := List.mem_singleton.1 hm; have h8 := (o1.blk x hx).1; omega)
    replace o8 := o8.keep km18 (fun x hx hm => by have h9 := List.mem_singleton.1 hm; have h8 := (o8.blk x hx).1; omega)
    replace o9 := o9.keep km18 (fun x hx hm => by have h9 := List.mem_singleton.1 hm; have h8 := (o9.blk x hx).1; omega)
    replace o10 := o10.keep km18 (fun x hx hm => by have h9 := List.mem_singleton.1 hm; have h8 := (o10.blk x hx).1; omega)
    replace o11 := o11.keep km18 (fun x hx hm => by have h9 := List.mem_singleton.1 hm; have h8 := (o11.blk x hx).1; omega)
    replace hb25 := hb25.keep km18 (fun hm => by have h9 := List.mem_singleton.1 hm; omega)
    replace hB := hB.new km18 (fun x hm => .inl (by have h9 := List.mem_singleton.1 hm; omega))
    have e_T : rT c = rVec (rC c).2.1 (rC c).2.2 := if_pos ‹_›
    have rr : RdR w56 p1 (rT c).2.1 (rT c).2.2 := by rw [e_T]; exact rr
    replace o12 : OwnB w56 w55.heap.size v12 (rT c).1 := by rw [e_T]; exact o12
    refine oga rfl rfl (aZ (aY (aY (aX (ogm rfl rfl (ah (a7 (vs := [_]) rfl (dW _ _ _ _ rr)) rfl ?_))))))
    rintro _ w57 ⟨rfl, k39⟩
    replace hb1 := hb1.lh k39
    replace rr := rr.lh k39
    replace o1 := o1.lh k39
    replace o8 := o8.lh k39
    replace o9 := o9.lh k39
    replace o10 := o10.lh k39
    replace o11 := o11.lh k39
    replace hb25 := hb25.lh k39
    replace o12 := o12.lh k39
    replace hB := hB.trans k39
    refine a4 (cC rfl rfl) rfl ?_
    refine ogm rfl rfl (al 77 false rfl (fun c17 hgc17 => ?_))
    refine a5 [(6, _)] (aa rfl rfl rfl hgc17) ⟨au rfl, trivial⟩ (fun hw57 => av rfl) rfl ?_
    refine a5 [(78, _)] (aa rfl rfl rfl hgc17) ⟨ae rfl, trivial⟩ (fun hw58 => cC rfl rfl) rfl ?_
    refine a4 (bi rfl rfl hgc17) rfl ?_
    refine ogm rfl rfl (al 81 false rfl (fun c18 hgc18 => ?_))
    refine a5 [(7, _)] (aa rfl rfl rfl hgc18) ⟨au rfl, trivial⟩ (fun hw59 => an (cs' := [_, _, _, _, _, _, _, _, _, _]) cd bc rfl hb25 rfl rfl) rfl ?_
    refine cQ [(82, _)] (aa rfl rfl rfl hgc18) ⟨ae rfl, trivial⟩ (fun hw60 => a7 (vs := [_]) rfl (cj _ _ _ _ _ (rX c) _ o1.rd o8.rd o9.rd o10.rd o11.rd)) rfl ?_
    rintro w59 k41
    replace hb1 := hb1.lh k41
    replace o1 := o1.lh k41
    replace o8 := o8.lh k41
    replace o9 := o9.lh k41
    replace o10 := o10.lh k41
    replace o11 := o11.lh k41
    replace hb25 := hb25.lh k41
    replace o12 := o12.lh k41
    replace hB := hB.trans k41
    refine a5 [(83, _)] (aa rfl rfl rfl hgc18) ⟨ae rfl, trivial⟩ (fun hw61 => dq rfl) rfl ?_
    refine a4 (bi rfl rfl hgc18) rfl ?_
    refine ogm rfl rfl (al 86 false rfl (fun c19 hgc19 => ?_))
    refine a5 [(8, _)] (aa rfl rfl rfl hgc19) ⟨au rfl, trivial⟩ (fun hw62 => av rfl) rfl ?_
    refine a5 [(87, _)] (aa rfl rfl rfl hgc19) ⟨ae rfl, trivial⟩ (fun hw63 => ai rfl) rfl ?_
    refine a5 [(88, _)] (aa rfl rfl rfl hgc19) ⟨ae rfl, trivial⟩ (fun hw64 => aj 2 aB rfl bJ (by decide) rfl rfl) rfl ?_
    refine a5 [(89, _)] (aa rfl rfl rfl hgc19) ⟨ae rfl, trivial⟩ (fun hw65 => ac bZ rfl hb25 rfl) rfl ?_
    refine a5 [(90, _)] (aa rfl rfl rfl hgc19) ⟨ae rfl, trivial⟩ (fun hw66 => bF rfl rfl) rfl ?_
    refine a5 [(91, _)] (aa rfl rfl rfl hgc19) ⟨ae rfl, trivial⟩ (fun hw67 => av rfl) rfl ?_
    refine cl 92 true rfl (fun c20 hgc20 => ?_)
    refine a5 [(9, _)] (cc rfl rfl rfl hgc20) ⟨au rfl, trivial⟩ (fun hw68 => av rfl) rfl ?_
    refine a5 [(93, _)] (cc rfl rfl rfl hgc20) ⟨ae rfl, trivial⟩ (fun hw69 => bI aA rfl o12.rd) rfl ?_
    refine a5 [(94, _)] (cc rfl rfl rfl hgc20) ⟨ae rfl, trivial⟩ (fun hw70 => cC rfl rfl) rfl ?_
    refine ck (aa rfl rfl rfl hgc19) (ae rfl) rfl hgc20 rfl ?_
    refine a4 (bi rfl rfl hgc19) rfl ?_
    refine aZ (ab [(2, _), (7, _), (9, _), (97, _)] ⟨rfl, rfl, rfl, rfl, trivial⟩ ?_)
    refine bH rfl (fun hc11 => ?_) (fun hc11 => ?_)
    ·
     have hd9 := hc11
     try (simp only [Bool.and_eq_true, Bool.or_eq_true, decide_eq_true_eq, Bool.and_eq_false_iff, Bool.or_eq_false_iff, decide_eq_false_iff_not, Bool.not_eq_true', Bool.not_eq_false', Bool.not_eq_true, Bool.not_eq_false, ne_eq, Decidable.not_not, decide_true, decide_false, Bool.true_and, Bool.false_and, Bool.or_false, Bool.false_or, not_true_eq_false, false_or, or_false, true_and, and_true, not_false_eq_true, reduceCtorEq] at hd9)
     refine aY (aX (a4 (cL (idx := []) (xs := []) (vs := []) (css := []) (out := [_, _, _, _, _, _, _, _, _, _]) iT bc rfl rfl trivial rfl rfl) rfl ?_))
     refine am (bU bc rfl rfl rfl (by simp only [List.forall_mem_cons]; exact ⟨rfl, rfl, rfl, rfl, rfl, rfl, rfl, rfl, rfl, rfl, fun v hv => by cases hv⟩) hb1 rfl) ?_
     rintro _ w60 ⟨hb26, k42, z26⟩
     replace o1 := o1.keep k42 (fun x hx hm => sb_b1_o1 x hx (List.mem_singleton.1 hm))
     replace o8 := o8.keep k42 (fun x hx hm => sb_b1_o8 x hx (List.mem_singleton.1 hm))
     replace o9 := o9.keep k42 (fun x hx hm => sb_b1_o9 x hx (List.mem_singleton.1 hm))
     replace o10 := o10.keep k42 (fun x hx hm => sb_b1_o10 x hx (List.mem_singleton.1 hm))
     replace o11 := o11.keep k42 (fun x hx hm => sb_b1_o11 x hx (List.mem_singleton.1 hm))
     replace hb25 := hb25.keep k42 (nm (Ne.symm ne_b1_b2))
     replace o12 := o12.keep k42 (fun x hx hm => sb_b1_o12 x hx (List.mem_singleton.1 hm))
     replace hB := hB.new k42 (nw ge_b1)
     clear z26
     replace hb26 : Bk w60 b1 _ [.slice none 0 0, .int .i64 0, .int .i64 0, .int .i64 0, .slice none 0 0, .int .i64 0, .slice none 0 0, .int .i64 0, .slice none 0 0, .slice none 0 0] := hb26
     refine oga rfl rfl (oga rfl rfl (aZ (bB hfin Tryd.results11 rfl (ao cd bc hb26 rfl) rfl rfl ?_)))
     have hg : gpOkP c = false := by
      rw [← Bool.not_eq_true, dM]; rintro ⟨q1, q2, q3, q4⟩; simp_all
     have eX : gpX c = fJ := by unfold gpX; rw [hg]; rfl
     have eT : gpT c = [] := by unfold gpT; rw [hg]; rfl
     have eF : gpF c = 21 := by unfold gpF; rw [hg]; rfl
     rw [eX, eT, eF]
     exact ⟨_, _, _, _, _, _, rfl, a9 _ _ _ _, a9 _ _ _ _, a9 _ _ _ _, a9 _ _ _ _, a9 _ _ _ _, a9 _ _ _ _, hB⟩
    ·
     have hd10 := hc11
     try (simp only [Bool.and_eq_true, Bool.or_eq_true, decide_eq_true_eq, Bool.and_eq_false_iff, Bool.or_eq_false_iff, decide_eq_false_iff_not, Bool.not_eq_true', Bool.not_eq_false', Bool.not_eq_true, Bool.not_eq_false, ne_eq, Decidable.not_not, decide_true, decide_false, Bool.true_and, Bool.false_and, Bool.or_false, Bool.false_or, not_true_eq_false, false_or, or_false, true_and, and_true, not_false_eq_true, reduceCtorEq] at hd10)
     refine a8 (aY (aX (a4 (an (cs' := [_, _, _, _, _, _, _, _, _, _]) cd bc rfl hb25 rfl rfl) rfl ?_)))
     refine ogm rfl rfl (am (bU bc rfl rfl rfl (by simp only [List.forall_mem_cons]; exact ⟨o1.rd.one, rfl, rfl, rfl, o8.rd.one, rfl, o9.rd.one, rfl, o10.rd.one, o11.rd.one, fun v hv => by cases hv⟩) hb1 rfl) ?_)
     rintro _ w61 ⟨hb27, k43, z27⟩
     replace o1 := o1.keep k43 (fun x hx hm => sb_b1_o1 x hx (List.mem_singleton.1 hm))
     replace o8 := o8.keep k43 (fun x hx hm => sb_b1_o8 x hx (List.mem_singleton.1 hm))
     replace o9 := o9.keep k43 (fun x hx hm => sb_b1_o9 x hx (List.mem_singleton.1 hm))
     replace o10 := o10.keep k43 (fun x hx hm => sb_b1_o10 x hx (List.mem_singleton.1 hm))
     replace o11 := o11.keep k43 (fun x hx hm => sb_b1_o11 x hx (List.mem_singleton.1 hm))
     replace hb25 := hb25.keep k43 (nm (Ne.symm ne_b1_b2))
     replace o12 := o12.keep k43 (fun x hx hm => sb_b1_o12 x hx (List.mem_singleton.1 hm))
     replace hB := hB.new k43 (nw ge_b1)
     clear z27
     replace hb27 : Bk w61 b1 _ [v1, .int .i64 (rEp c).1, .int .i64 (rFr c).1, .int .i64 (rLf c).1, v8, .int .i64 (rKd c).1, v9, .int .i64 1, v10, v11] := hb27
     refine oga rfl rfl (oga rfl rfl (aZ (bB hfin Tryd.results11 rfl (ao cd bc hb27 rfl) rfl rfl ?_)))
     have hg : gpOkP c = true := by
      rw [dM]; refine ⟨?_, ?_, ?_, ?_⟩ <;> simp_all
     have eX : gpX c = rX c := by unfold gpX; rw [hg]; rfl
     have eT : gpT c = (rT c).1 := by unfold gpT; rw [hg]; rfl
     have eF : gpF c = 0 := by unfold gpF; rw [hg]; rfl
     rw [eX, eT, eF]
     exact ⟨_, _, _, _, _, _, rfl, o1.lo gl_o1, o8.lo gl_o8, o9.lo gl_o9, o10.lo gl_o10, o11.lo gl_o11, o12.lo gl_o12, hB⟩
   ·
    refine a8 (aY (aY (aX ?_)))
    have e_T : rT c = ([], (rC c).2) := if_neg ‹_›
    have rr : RdR w55 p1 (rT c).2.1 (rT c).2.2 := by rw [e_T]; exact rr
    refine ogm rfl rfl (ah (a7 (vs := [_]) rfl (dW _ _ _ _ rr)) rfl ?_)
    rintro _ w62 ⟨rfl, k44⟩
    replace hb1 := hb1.lh k44
    replace rr := rr.lh k44
    replace o1 := o1.lh k44
    replace o8 := o8.lh k44
    replace o9 := o9.lh k44
    replace o10 := o10.lh k44
    replace o11 := o11.lh k44
    replace hb25 := hb25.lh k44
    replace hB := hB.trans k44
    refine a4 (cC rfl rfl) rfl ?_
    refine ogm rfl rfl (al 77 false rfl (fun c21 hgc21 => ?_))
    refine a5 [(6, _)] (aa rfl rfl rfl hgc21) ⟨au rfl, trivial⟩ (fun hw71 => av rfl) rfl ?_
    refine a5 [(78, _)] (aa rfl rfl rfl hgc21) ⟨ae rfl, trivial⟩ (fun hw72 => cC rfl rfl) rfl ?_
    refine a4 (bi rfl rfl hgc21) rfl ?_
    refine ogm rfl rfl (al 81 false rfl (fun c22 hgc22 => ?_))
    refine a5 [(7, _)] (aa rfl rfl rfl hgc22) ⟨au rfl, trivial⟩ (fun hw73 => an (cs' := [_, _, _, _, _, _, _, _, _, _]) cd bc rfl hb25 rfl rfl) rfl ?_
    refine cQ [(82, _)] (aa rfl rfl rfl hgc22) ⟨ae rfl, trivial⟩ (fun hw74 => a7 (vs := [_]) rfl (cj _ _ _ _ _ (rX c) _ o1.rd o8.rd o9.rd o10.rd o11.rd)) rfl ?_
    rintro w64 k46
    replace hb1 := hb1.lh k46
    replace o1 := o1.lh k46
    replace o8 := o8.lh k46
    replace o9 := o9.lh k46
    replace o10 := o10.lh k46
    replace o11 := o11.lh k46
    replace hb25 := hb25.lh k46
    replace hB := hB.trans k46
    refine a5 [(83, _)] (aa rfl rfl rfl hgc22) ⟨ae rfl, trivial⟩ (fun hw75 => dq rfl) rfl ?_
    refine a4 (bi rfl rfl hgc22) rfl ?_
    refine ogm rfl rfl (al 86 false rfl (fun c23 hgc23 => ?_))
    refine a5 [(8, _)] (aa rfl rfl rfl hgc23) ⟨au rfl, trivial⟩ (fun hw76 => av rfl) rfl ?_
    refine a5 [(87, _)] (aa rfl rfl rfl hgc23) ⟨ae rfl, trivial⟩ (fun hw77 => ai rfl) rfl ?_
    refine a5 [(88, _)] (aa rfl rfl rfl hgc23) ⟨ae rfl, trivial⟩ (fun hw78 => aj 2 aB rfl bJ (by decide) rfl rfl) rfl ?_
    refine a5 [(89, _)] (aa rfl rfl rfl hgc23) ⟨ae rfl, trivial⟩ (fun hw79 => ac bZ rfl hb25 rfl) rfl ?_
    refine a5 [(90, _)] (aa rfl rfl rfl hgc23) ⟨ae rfl, trivial⟩ (fun hw80 => bF rfl rfl) rfl ?_
    refine a5 [(91, _)] (aa rfl rfl rfl hgc23) ⟨ae rfl, trivial⟩ (fun hw81 => av rfl) rfl ?_
    refine cl 92 true rfl (fun c24 hgc24 => ?_)
    refine a5 [(9, _)] (cc rfl rfl rfl hgc24) ⟨au rfl, trivial⟩ (fun hw82 => av rfl) rfl ?_
    refine a5 [(93, _)] (cc rfl rfl rfl hgc24) ⟨ae rfl, trivial⟩ (fun hw83 => bI aA rfl (Rd.nil _ 1)) rfl ?_
    refine a5 [(94, _)] (cc rfl rfl rfl hgc24) ⟨ae rfl, trivial⟩ (fun hw84 => cC rfl rfl) rfl ?_
    refine ck (aa rfl rfl rfl hgc23) (ae rfl) rfl hgc24 rfl ?_
    refine a4 (bi rfl rfl hgc23) rfl ?_
    refine aZ (ab [(2, _), (7, _), (9, _), (97, _)] ⟨rfl, rfl, rfl, rfl, trivial⟩ ?_)
    refine bH rfl (fun hc12 => ?_) (fun hc12 => ?_)
    ·
     have hd11 := hc12
     try (simp only [Bool.and_eq_true, Bool.or_eq_true, decide_eq_true_eq, Bool.and_eq_false_iff, Bool.or_eq_false_iff, decide_eq_false_iff_not, Bool.not_eq_true', Bool.not_eq_false', Bool.not_eq_true, Bool.not_eq_false, ne_eq, Decidable.not_not, decide_true, decide_false, Bool.true_and, Bool.false_and, Bool.or_false, Bool.false_or, not_true_eq_false, false_or, or_false, true_and, and_true, not_false_eq_true, reduceCtorEq] at hd11)
     refine aY (aX (a4 (cL (idx := []) (xs := []) (vs := []) (css := []) (out := [_, _, _, _, _, _, _, _, _, _]) iT bc rfl rfl trivial rfl rfl) rfl ?_))
     refine am (bU bc rfl rfl rfl (by simp only [List.forall_mem_cons]; exact ⟨rfl, rfl, rfl, rfl, rfl, rfl, rfl, rfl, rfl, rfl, fun v hv => by cases hv⟩) hb1 rfl) ?_
     rintro _ w65 ⟨hb28, k47, z28⟩
     replace o1 := o1.keep k47 (fun x hx hm => sb_b1_o1 x hx (List.mem_singleton.1 hm))
     replace o8 := o8.keep k47 (fun x hx hm => sb_b1_o8 x hx (List.mem_singleton.1 hm))
     replace o9 := o9.keep k47 (fun x hx hm => sb_b1_o9 x hx (List.mem_singleton.1 hm))
     replace o10 := o10.keep k47 (fun x hx hm => sb_b1_o10 x hx (List.mem_singleton.1 hm))
     replace o11 := o11.keep k47 (fun x hx hm => sb_b1_o11 x hx (List.mem_singleton.1 hm))
     replace hb25 := hb25.keep k47 (nm (Ne.symm ne_b1_b2))
     replace hB := hB.new k47 (nw ge_b1)
     clear z28
     replace hb28 : Bk w65 b1 _ [.slice none 0 0, .int .i64 0, .int .i64 0, .int .i64 0, .slice none 0 0, .int .i64 0, .slice none 0 0, .int .i64 0, .slice none 0 0, .slice none 0 0] := hb28
     refine oga rfl rfl (oga rfl rfl (aZ (bB hfin Tryd.results11 rfl (ao cd bc hb28 rfl) rfl rfl ?_)))
     have hg : gpOkP c = false := by
      rw [← Bool.not_eq_true, dM]; rintro ⟨q1, q2, q3, q4⟩; simp_all
     have eX : gpX c = fJ := by unfold gpX; rw [hg]; rfl
     have eT : gpT c = [] := by unfold gpT; rw [hg]; rfl
     have eF : gpF c = 21 := by unfold gpF; rw [hg]; rfl
     rw [eX, eT, eF]
     exact ⟨_, _, _, _, _, _, rfl, a9 _ _ _ _, a9 _ _ _ _, a9 _ _ _ _, a9 _ _ _ _, a9 _ _ _ _, a9 _ _ _ _, hB⟩
    ·
     have hd12 := hc12
     try (simp only [Bool.and_eq_true, Bool.or_eq_true, decide_eq_true_eq, Bool.and_eq_false_iff, Bool.or_eq_false_iff, decide_eq_false_iff_not, Bool.not_eq_true', Bool.not_eq_false', Bool.not_eq_true, Bool.not_eq_false, ne_eq, Decidable.not_not, decide_true, decide_false, Bool.true_and, Bool.false_and, Bool.or_false, Bool.false_or, not_true_eq_false, false_or, or_false, true_and, and_true, not_false_eq_true, reduceCtorEq] at hd12)
     refine a8 (aY (aX (a4 (an (cs' := [_, _, _, _, _, _, _, _, _, _]) cd bc rfl hb25 rfl rfl) rfl ?_)))
     refine ogm rfl rfl (am (bU bc rfl rfl rfl (by simp only [List.forall_mem_cons]; exact ⟨o1.rd.one, rfl, rfl, rfl, o8.rd.one, rfl, o9.rd.one, rfl, o10.rd.one, o11.rd.one, fun v hv => by cases hv⟩) hb1 rfl) ?_)
     rintro _ w66 ⟨hb29, k48, z29⟩
     replace o1 := o1.keep k48 (fun x hx hm => sb_b1_o1 x hx (List.mem_singleton.1 hm))
     replace o8 := o8.keep k48 (fun x hx hm => sb_b1_o8 x hx (List.mem_singleton.1 hm))
     replace o9 := o9.keep k48 (fun x hx hm => sb_b1_o9 x hx (List.mem_singleton.1 hm))
     replace o10 := o10.keep k48 (fun x hx hm => sb_b1_o10 x hx (List.mem_singleton.1 hm))
     replace o11 := o11.keep k48 (fun x hx hm => sb_b1_o11 x hx (List.mem_singleton.1 hm))
     replace hb25 := hb25.keep k48 (nm (Ne.symm ne_b1_b2))
     replace hB := hB.new k48 (nw ge_b1)
     clear z29
     replace hb29 : Bk w66 b1 _ [v1, .int .i64 (rEp c).1, .int .i64 (rFr c).1, .int .i64 (rLf c).1, v8, .int .i64 (rKd c).1, v9, .int .i64 1, v10, v11] := hb29
     refine oga rfl rfl (oga rfl rfl (aZ (bB hfin Tryd.results11 rfl (ao cd bc hb29 rfl) rfl rfl ?_)))
     have hg : gpOkP c = true := by
      rw [dM]; refine ⟨?_, ?_, ?_, ?_⟩ <;> simp_all
     have eX : gpX c = rX c := by unfold gpX; rw [hg]; rfl
     have eT : gpT c = (rT c).1 := by unfold gpT; rw [hg]; rfl
     have eF : gpF c = 0 := by unfold gpF; rw [hg]; rfl
     rw [eX, eT, eF]
     exact ⟨_, _, _, _, _, _, rfl, o1.lo gl_o1, o8.lo gl_o8, o9.lo gl_o9, o10.lo gl_o10, o11.lo gl_o11, dL (a9 _ _ _ _) (show [] = _ from by rw [e_T]), hB⟩
  ·
   refine a8 (aY (aX ?_))
   have e_C : rC c = ([], (rS c).2) := if_neg ‹_›
   have rr : RdR w53 p1 (rC c).2.1 (rC c).2.2 := by rw [e_C]; exact rr
   refine oga rfl rfl (aZ (aY (aY (aX (ogm rfl rfl (a4 (ai rfl) rfl ?_))))))
   refine a4 (aj 2 aB rfl bJ (by decide) rfl rfl) rfl ?_
   refine a4 (ac bZ rfl hb24 rfl) rfl ?_
   refine a4 (bF rfl rfl) rfl ?_
   refine aZ (ab [(2, _), (5, _), (6, _), (7, _), (8, _), (9, _), (71, _)] ⟨rfl, rfl, rfl, rfl, rfl, rfl, rfl, trivial⟩ ?_)
   refine ar rfl (fun hc13 => ?_) (fun hc13 => ?_)
   ·
    refine aX (ogm rfl rfl ?_)
    have lv_km19 := rr.lt
    refine ah (a7 (vs := [_]) rfl (bo p1 (rC c).2.1 (rC c).2.2 _ rr)) rfl ?_
    rintro v13 w67 ⟨_, rfl, o13, rr, km19⟩
    have gl_o13 := hB.size
    have sb_b1_o13 := fun x hx => (show x ≠ b1 from by have h1 := (o13.blk x hx).1; have h2 := hb1.lt; omega)
    have z_km19 := km19.size
    replace hb1 := hb1.keep km19 (fun hm => by have h9 := List.mem_singleton.1 hm; omega)
    replace o1 := o1.keep km19 (fun x hx hm => by have h9 := List.mem_singleton.1 hm; have h8 := (o1.blk x hx).1; omega)
    replace o8 := o8.keep km19 (fun x hx hm => by have h9 := List.mem_singleton.1 hm; have h8 := (o8.blk x hx).1; omega)
    replace o9 := o9.keep km19 (fun x hx hm => by have h9 := List.mem_singleton.1 hm; have h8 := (o9.blk x hx).1; omega)
    replace o10 := o10.keep km19 (fun x hx hm => by have h9 := List.mem_singleton.1 hm; have h8 := (o10.blk x hx).1; omega)
    replace hb24 := hb24.keep km19 (fun hm => by have h9 := List.mem_singleton.1 hm; omega)
    replace hB := hB.new km19 (fun x hm => .inl (by have h9 := List.mem_singleton.1 hm; omega))
    have e_T : rT c = rVec (rC c).2.1 (rC c).2.2 := if_pos ‹_›
    have rr : RdR w67 p1 (rT c).2.1 (rT c).2.2 := by rw [e_T]; exact rr
    replace o13 : OwnB w67 w53.heap.size v13 (rT c).1 := by rw [e_T]; exact o13
    refine oga rfl rfl (aZ (aY (aY (aX (ogm rfl rfl (ah (a7 (vs := [_]) rfl (dW _ _ _ _ rr)) rfl ?_))))))
    rintro _ w68 ⟨rfl, k49⟩
    replace hb1 := hb1.lh k49
    replace rr := rr.lh k49
    replace o1 := o1.lh k49
    replace o8 := o8.lh k49
    replace o9 := o9.lh k49
    replace o10 := o10.lh k49
    replace hb24 := hb24.lh k49
    replace o13 := o13.lh k49
    replace hB := hB.trans k49
    refine a4 (cC rfl rfl) rfl ?_
    refine ogm rfl rfl (al 77 false rfl (fun c25 hgc25 => ?_))
    refine a5 [(6, _)] (aa rfl rfl rfl hgc25) ⟨au rfl, trivial⟩ (fun hw85 => av rfl) rfl ?_
    refine a5 [(78, _)] (aa rfl rfl rfl hgc25) ⟨ae rfl, trivial⟩ (fun hw86 => cC rfl rfl) rfl ?_
    refine a4 (bi rfl rfl hgc25) rfl ?_
    refine ogm rfl rfl (al 81 false rfl (fun c26 hgc26 => ?_))
    refine a5 [(7, _)] (aa rfl rfl rfl hgc26) ⟨au rfl, trivial⟩ (fun hw87 => an (cs' := [_, _, _, _, _, _, _, _, _, _]) cd bc rfl hb24 rfl rfl) rfl ?_
    refine cQ [(82, _)] (aa rfl rfl rfl hgc26) ⟨ae rfl, trivial⟩ (fun hw88 => a7 (vs := [_]) rfl (cj _ _ _ _ _ (rX c) _ o1.rd o8.rd o9.rd o10.rd (show RdB _ (.slice none 0 0) _ from by rw [show (rX c).cs = [] from by show (rC c).1 = []; rw [e_C]]; exact Rd.nil _ _))) rfl ?_
    rintro w70 k51
    replace hb1 := hb1.lh k51
    replace o1 := o1.lh k51
    replace o8 := o8.lh k51
    replace o9 := o9.lh k51
    replace o10 := o10.lh k51
    replace hb24 := hb24.lh k51
    replace o13 := o13.lh k51
    replace hB := hB.trans k51
    refine a5 [(83, _)] (aa rfl rfl rfl hgc26) ⟨ae rfl, trivial⟩ (fun hw89 => dq rfl) rfl ?_
    refine a4 (bi rfl rfl hgc26) rfl ?_
    refine ogm rfl rfl (al 86 false rfl (fun c27 hgc27 => ?_))
    refine a5 [(8, _)] (aa rfl rfl rfl hgc27) ⟨au rfl, trivial⟩ (fun hw90 => av rfl) rfl ?_
    refine a5 [(87, _)] (aa rfl rfl rfl hgc27) ⟨ae rfl, trivial⟩ (fun hw91 => ai rfl) rfl ?_
    refine a5 [(88, _)] (aa rfl rfl rfl hgc27) ⟨ae rfl, trivial⟩ (fun hw92 => aj 2 aB rfl bJ (by decide) rfl rfl) rfl ?_
    refine a5 [(89, _)] (aa rfl rfl rfl hgc27) ⟨ae rfl, trivial⟩ (fun hw93 => ac bZ rfl hb24 rfl) rfl ?_
    refine a5 [(90, _)] (aa rfl rfl rfl hgc27) ⟨ae rfl, trivial⟩ (fun hw94 => bF rfl rfl) rfl ?_
    refine a5 [(91, _)] (aa rfl rfl rfl hgc27) ⟨ae rfl, trivial⟩ (fun hw95 => av rfl) rfl ?_
    refine cl 92 true rfl (fun c28 hgc28 => ?_)
    refine a5 [(9, _)] (cc rfl rfl rfl hgc28) ⟨au rfl, trivial⟩ (fun hw96 => av rfl) rfl ?_
    refine a5 [(93, _)] (cc rfl rfl rfl hgc28) ⟨ae rfl, trivial⟩ (fun hw97 => bI aA rfl o13.rd) rfl ?_
    refine a5 [(94, _)] (cc rfl rfl rfl hgc28) ⟨ae rfl, trivial⟩ (fun hw98 => cC rfl rfl) rfl ?_
    refine ck (aa rfl rfl rfl hgc27) (ae rfl) rfl hgc28 rfl ?_
    refine a4 (bi rfl rfl hgc27) rfl ?_
    refine aZ (ab [(2, _), (7, _), (9, _), (97, _)] ⟨rfl, rfl, rfl, rfl, trivial⟩ ?_)
    refine bH rfl (fun hc14 => ?_) (fun hc14 => ?_)
    ·
     have hd13 := hc14
     try (simp only [Bool.and_eq_true, Bool.or_eq_true, decide_eq_true_eq, Bool.and_eq_false_iff, Bool.or_eq_false_iff, decide_eq_false_iff_not, Bool.not_eq_true', Bool.not_eq_false', Bool.not_eq_true, Bool.not_eq_false, ne_eq, Decidable.not_not, decide_true, decide_false, Bool.true_and, Bool.false_and, Bool.or_false, Bool.false_or, not_true_eq_false, false_or, or_false, true_and, and_true, not_false_eq_true, reduceCtorEq] at hd13)
     refine aY (aX (a4 (cL (idx := []) (xs := []) (vs := []) (css := []) (out := [_, _, _, _, _, _, _, _, _, _]) iT bc rfl rfl trivial rfl rfl) rfl ?_))
     refine am (bU bc rfl rfl rfl (by simp only [List.forall_mem_cons]; exact ⟨rfl, rfl, rfl, rfl, rfl, rfl, rfl, rfl, rfl, rfl, fun v hv => by cases hv⟩) hb1 rfl) ?_
     rintro _ w71 ⟨hb30, k52, z30⟩
     replace o1 := o1.keep k52 (fun x hx hm => sb_b1_o1 x hx (List.mem_singleton.1 hm))
     replace o8 := o8.keep k52 (fun x hx hm => sb_b1_o8 x hx (List.mem_singleton.1 hm))
     replace o9 := o9.keep k52 (fun x hx hm => sb_b1_o9 x hx (List.mem_singleton.1 hm))
     replace o10 := o10.keep k52 (fun x hx hm => sb_b1_o10 x hx (List.mem_singleton.1 hm))
     replace hb24 := hb24.keep k52 (nm (Ne.symm ne_b1_b2))
     replace o13 := o13.keep k52 (fun x hx hm => sb_b1_o13 x hx (List.mem_singleton.1 hm))
     replace hB := hB.new k52 (nw ge_b1)
     clear z30
     replace hb30 : Bk w71 b1 _ [.slice none 0 0, .int .i64 0, .int .i64 0, .int .i64 0, .slice none 0 0, .int .i64 0, .slice none 0 0, .int .i64 0, .slice none 0 0, .slice none 0 0] := hb30
     refine oga rfl rfl (oga rfl rfl (aZ (bB hfin Tryd.results11 rfl (ao cd bc hb30 rfl) rfl rfl ?_)))
     have hg : gpOkP c = false := by
      rw [← Bool.not_eq_true, dM]; rintro ⟨q1, q2, q3, q4⟩; simp_all
     have eX : gpX c = fJ := by unfold gpX; rw [hg]; rfl
     have eT : gpT c = [] := by unfold gpT; rw [hg]; rfl
     have eF : gpF c = 21 := by unfold gpF; rw [hg]; rfl
     rw [eX, eT, eF]
     exact ⟨_, _, _, _, _, _, rfl, a9 _ _ _ _, a9 _ _ _ _, a9 _ _ _ _, a9 _ _ _ _, a9 _ _ _ _, a9 _ _ _ _, hB⟩
    ·
     have hd14 := hc14
     try (simp only [Bool.and_eq_true, Bool.or_eq_true, decide_eq_true_eq, Bool.and_eq_false_iff, Bool.or_eq_false_iff, decide_eq_false_iff_not, Bool.not_eq_true', Bool.not_eq_false', Bool.not_eq_true, Bool.not_eq_false, ne_eq, Decidable.not_not, decide_true, decide_false, Bool.true_and, Bool.false_and, Bool.or_false, Bool.false_or, not_true_eq_false, false_or, or_false, true_and, and_true, not_false_eq_true, reduceCtorEq] at hd14)
     refine a8 (aY (aX (a4 (an (cs' := [_, _, _, _, _, _, _, _, _, _]) cd bc rfl hb24 rfl rfl) rfl ?_)))
     refine ogm rfl rfl (am (bU bc rfl rfl rfl (by simp only [List.forall_mem_cons]; exact ⟨o1.rd.one, rfl, rfl, rfl, o8.rd.one, rfl, o9.rd.one, rfl, o10.rd.one, rfl, fun v hv => by cases hv⟩) hb1 rfl) ?_)
     rintro _ w72 ⟨hb31, k53, z31⟩
     replace o1 := o1.keep k53 (fun x hx hm => sb_b1_o1 x hx (List.mem_singleton.1 hm))
     replace o8 := o8.keep k53 (fun x hx hm => sb_b1_o8 x hx (List.mem_singleton.1 hm))
     replace o9 := o9.keep k53 (fun x hx hm => sb_b1_o9 x hx (List.mem_singleton.1 hm))
     replace o10 := o10.keep k53 (fun x hx hm => sb_b1_o10 x hx (List.mem_singleton.1 hm))
     replace hb24 := hb24.keep k53 (nm (Ne.symm ne_b1_b2))
     replace o13 := o13.keep k53 (fun x hx hm => sb_b1_o13 x hx (List.mem_singleton.1 hm))
     replace hB := hB.new k53 (nw ge_b1)
     clear z31
     replace hb31 : Bk w72 b1 _ [v1, .int .i64 (rEp c).1, .int .i64 (rFr c).1, .int .i64 (rLf c).1, v8, .int .i64 (rKd c).1, v9, .int .i64 1, v10, .slice none 0 0] := hb31
     refine oga rfl rfl (oga rfl rfl (aZ (bB hfin Tryd.results11 rfl (ao cd bc hb31 rfl) rfl rfl ?_)))
     have hg : gpOkP c = true := by
      rw [dM]; refine ⟨?_, ?_, ?_, ?_⟩ <;> simp_all
     have eX : gpX c = rX c := by unfold gpX; rw [hg]; rfl
     have eT : gpT c = (rT c).1 := by unfold gpT; rw [hg]; rfl
     have eF : gpF c = 0 := by unfold gpF; rw [hg]; rfl
     rw [eX, eT, eF]
     exact ⟨_, _, _, _, _, _, rfl, o1.lo gl_o1, o8.lo gl_o8, o9.lo gl_o9, o10.lo gl_o10, dL (a9 _ _ _ _) (show [] = _ from by show [] = (rC c).1; rw [e_C]), o13.lo gl_o13, hB⟩
   ·
    refine a8 (aY (aY (aX ?_)))
    have e_T : rT c = ([], (rC c).2) := if_neg ‹_›
    have rr : RdR w53 p1 (rT c).2.1 (rT c).2.2 := by rw [e_T]; exact rr
    refine ogm rfl rfl (ah (a7 (vs := [_]) rfl (dW _ _ _ _ rr)) rfl ?_)
    rintro _ w73 ⟨rfl, k54⟩
    replace hb1 := hb1.lh k54
    replace rr := rr.lh k54
    replace o1 := o1.lh k54
    replace o8 := o8.lh k54
    replace o9 := o9.lh k54
    replace o10 := o10.lh k54
    replace hb24 := hb24.lh k54
    replace hB := hB.trans k54
    refine a4 (cC rfl rfl) rfl ?_
    refine ogm rfl rfl (al 77 false rfl (fun c29 hgc29 => ?_))
    refine a5 [(6, _)] (aa rfl rfl rfl hgc29) ⟨au rfl, trivial⟩ (fun hw99 => av rfl) rfl ?_
    refine a5 [(78, _)] (aa rfl rfl rfl hgc29) ⟨ae rfl, trivial⟩ (fun hw100 => cC rfl rfl) rfl ?_
    refine a4 (bi rfl rfl hgc29) rfl ?_
    refine ogm rfl rfl (al 81 false rfl (fun c30 hgc30 => ?_))
    refine a5 [(7, _)] (aa rfl rfl rfl hgc30) ⟨au rfl, trivial⟩ (fun hw101 => an (cs' := [_, _, _, _, _, _, _, _, _, _]) cd bc rfl hb24 rfl rfl) rfl ?_
    refine cQ [(82, _)] (aa rfl rfl rfl hgc30) ⟨ae rfl, trivial⟩ (fun hw102 => a7 (vs := [_]) rfl (cj _ _ _ _ _ (rX c) _ o1.rd o8.rd o9.rd o10.rd (show RdB _ (.slice none 0 0) _ from by rw [show (rX c).cs = [] from by show (rC c).1 = []; rw [e_C]]; exact Rd.nil _ _))) rfl ?_
    rintro w75 k56
    replace hb1 := hb1.lh k56
    replace o1 := o1.lh k56
    replace o8 := o8.lh k56
    replace o9 := o9.lh k56
    replace o10 := o10.lh k56
    replace hb24 := hb24.lh k56
    replace hB := hB.trans k56
    refine a5 [(83, _)] (aa rfl rfl rfl hgc30) ⟨ae rfl, trivial⟩ (fun hw103 => dq rfl) rfl ?_
    refine a4 (bi rfl rfl hgc30) rfl ?_
    refine ogm rfl rfl (al 86 false rfl (fun c31 hgc31 => ?_))
    refine a5 [(8, _)] (aa rfl rfl rfl hgc31) ⟨au rfl, trivial⟩ (fun hw104 => av rfl) rfl ?_
    refine a5 [(87, _)] (aa rfl rfl rfl hgc31) ⟨ae rfl, trivial⟩ (fun hw105 => ai rfl) rfl ?_
    refine a5 [(88, _)] (aa rfl rfl rfl hgc31) ⟨ae rfl, trivial⟩ (fun hw106 => aj 2 aB rfl bJ (by decide) rfl rfl) rfl ?_
    refine a5 [(89, _)] (aa rfl rfl rfl hgc31) ⟨ae rfl, trivial⟩ (fun hw107 => ac bZ rfl hb24 rfl) rfl ?_
    refine a5 [(90, _)] (aa rfl rfl rfl hgc31) ⟨ae rfl, trivial⟩ (fun hw108 => bF rfl rfl) rfl ?_
    refine a5 [(91, _)] (aa rfl rfl rfl hgc31) ⟨ae rfl, trivial⟩ (fun hw109 => av rfl) rfl ?_
    refine cl 92 true rfl (fun c32 hgc32 => ?_)
    refine a5 [(9, _)] (cc rfl rfl rfl hgc32) ⟨au rfl, trivial⟩ (fun hw110 => av rfl) rfl ?_
    refine a5 [(93, _)] (cc rfl rfl rfl hgc32) ⟨ae rfl, trivial⟩ (fun hw111 => bI aA rfl (Rd.nil _ 1)) rfl ?_
    refine a5 [(94, _)] (cc rfl rfl rfl hgc32) ⟨ae rfl, trivial⟩ (fun hw112 => cC rfl rfl) rfl ?_
    refine ck (aa rfl rfl rfl hgc31) (ae rfl) rfl hgc32 rfl ?_
    refine a4 (bi rfl rfl hgc31) rfl ?_
    refine aZ (ab [(2, _), (7, _), (9, _), (97, _)] ⟨rfl, rfl, rfl, rfl, trivial⟩ ?_)
    refine bH rfl (fun hc15 => ?_) (fun hc15 => ?_)
    ·
     have hd15 := hc15
     try (simp only [Bool.and_eq_true, Bool.or_eq_true, decide_eq_true_eq, Bool.and_eq_false_iff, Bool.or_eq_false_iff, decide_eq_false_iff_not, Bool.not_eq_true', Bool.not_eq_false', Bool.not_eq_true, Bool.not_eq_false, ne_eq, Decidable.not_not, decide_true, decide_false, Bool.true_and, Bool.false_and, Bool.or_false, Bool.false_or, not_true_eq_false, false_or, or_false, true_and, and_true, not_false_eq_true, reduceCtorEq] at hd15)
     refine aY (aX (a4 (cL (idx := []) (xs := []) (vs := []) (css := []) (out := [_, _, _, _, _, _, _, _, _, _]) iT bc rfl rfl trivial rfl rfl) rfl ?_))
     refine am (bU bc rfl rfl rfl (by simp only [List.forall_mem_cons]; exact ⟨rfl, rfl, rfl, rfl, rfl, rfl, rfl, rfl, rfl, rfl, fun v hv => by cases hv⟩) hb1 rfl) ?_
     rintro _ w76 ⟨hb32, k57, z32⟩
     replace o1 := o1.keep k57 (fun x hx hm => sb_b1_o1 x hx (List.mem_singleton.1 hm))
     replace o8 := o8.keep k57 (fun x hx hm => sb_b1_o8 x hx (List.mem_singleton.1 hm))
     replace o9 := o9.keep k57 (fun x hx hm => sb_b1_o9 x hx (List.mem_singleton.1 hm))
     replace o10 := o10.keep k57 (fun x hx hm => sb_b1_o10 x hx (List.mem_singleton.1 hm))
     replace hb24 := hb24.keep k57 (nm (Ne.symm ne_b1_b2))
     replace hB := hB.new k57 (nw ge_b1)
     clear z32
     replace hb32 : Bk w76 b1 _ [.slice none 0 0, .int .i64 0, .int .i64 0, .int .i64 0, .slice none 0 0, .int .i64 0, .slice none 0 0, .int .i64 0, .slice none 0 0, .slice none 0 0] := hb32
     refine oga rfl rfl (oga rfl rfl (aZ (bB hfin Tryd.results11 rfl (ao cd bc hb32 rfl) rfl rfl ?_)))
     have hg : gpOkP c = false := by
      rw [← Bool.not_eq_true, dM]; rintro ⟨q1, q2, q3, q4⟩; simp_all
     have eX : gpX c = fJ := by unfold gpX; rw [hg]; rfl
     have eT : gpT c = [] := by unfold gpT; rw [hg]; rfl
     have eF : gpF c = 21 := by unfold gpF; rw [hg]; rfl
     rw [eX, eT, eF]
     exact ⟨_, _, _, _, _, _, rfl, a9 _ _ _ _, a9 _ _ _ _, a9 _ _ _ _, a9 _ _ _ _, a9 _ _ _ _, a9 _ _ _ _, hB⟩
    ·
     have hd16 := hc15
     try (simp only [Bool.and_eq_true, Bool.or_eq_true, decide_eq_true_eq, Bool.and_eq_false_iff, Bool.or_eq_false_iff, decide_eq_false_iff_not, Bool.not_eq_true', Bool.not_eq_false', Bool.not_eq_true, Bool.not_eq_false, ne_eq, Decidable.not_not, decide_true, decide_false, Bool.true_and, Bool.false_and, Bool.or_false, Bool.false_or, not_true_eq_false, false_or, or_false, true_and, and_true, not_false_eq_true, reduceCtorEq] at hd16)
     refine a8 (aY (aX (a4 (an (cs' := [_, _, _, _, _, _, _, _, _, _]) cd bc rfl hb24 rfl rfl) rfl ?_)))
     refine ogm rfl rfl (am (bU bc rfl rfl rfl (by simp only [List.forall_mem_cons]; exact ⟨o1.rd.one, rfl, rfl, rfl, o8.rd.one, rfl, o9.rd.one, rfl, o10.rd.one, rfl, fun v hv => by cases hv⟩) hb1 rfl) ?_)
     rintro _ w77 ⟨hb33, k58, z33⟩
     replace o1 := o1.keep k58 (fun x hx hm => sb_b1_o1 x hx (List.mem_singleton.1 hm))
     replace o8 := o8.keep k58 (fun x hx hm => sb_b1_o8 x hx (List.mem_singleton.1 hm))
     replace o9 := o9.keep k58 (fun x hx hm => sb_b1_o9 x hx (List.mem_singleton.1 hm))
     replace o10 := o10.keep k58 (fun x hx hm => sb_b1_o10 x hx (List.mem_singleton.1 hm))
     replace hB := hB.new k58 (nw ge_b1)
     clear z33
     replace hb33 : Bk w77 b1 _ [v1, .int .i64 (rEp c).1, .int .i64 (rFr c).1, .int .i64 (rLf c).1, v8, .int .i64 (rKd c).1, v9, .int .i64 1, v10, .slice none 0 0] := hb33
     refine oga rfl rfl (oga rfl rfl (aZ (bB hfin Tryd.results11 rfl (ao cd bc hb33 rfl) rfl rfl ?_)))
     have hg : gpOkP c = true := by
      rw [dM]; refine ⟨?_, ?_, ?_, ?_⟩ <;> simp_all
     have eX : gpX c = rX c := by unfold gpX; rw [hg]; rfl
     have eT : gpT c = (rT c).1 := by unfold gpT; rw [hg]; rfl
     have eF : gpF c = 0 := by unfold gpF; rw [hg]; rfl
     rw [eX, eT, eF]
     exact ⟨_, _, _, _, _, _, rfl, o1.lo gl_o1, o8.lo gl_o8, o9.lo gl_o9, o10.lo gl_o10, dL (a9 _ _ _ _) (show [] = _ from by show [] = (rC c).1; rw [e_C]), dL (a9 _ _ _ _) (show [] = _ from by rw [e_T]), hB⟩
theorem jQ (g m b sg cf : Value) (x : Fm) (w : World) (hg : RdB w g x.gs) (hm : RdB w m x.ms) (hb : RdB w b x.bs) (hs : RdB w sg x.ss) (hc : RdB w cf x.cs) (tg : x.gs.length ≤ 140737488351232) (tm : x.ms.length ≤ 140737488351232) (tb : x.bs.length ≤ 140737488351232) (ts : x.ss.length ≤ 140737488351232) (tc : x.cs.length ≤ 140737488351232) : Rets Tryd.prog 5 [.agg [g, .int .i64 x.ep, .int .i64 x.fr, .int .i64 x.lf, m, .int .i64 x.kd, b, .int .i64 x.wi, sg, cf].toArray] w (fun r w' => ∃ gq mq bq sgq cfq, r = .agg [gq, .int .i64 x.ep, .int .i64 x.fr, .int .i64 x.lf, mq, .int .i64 x.kd, bq, .int .i64 x.wi, sgq, cfq].toArray ∧ OwnB w' w.heap.size gq x.gs ∧ OwnB w' w.heap.size mq x.ms ∧ OwnB w' w.heap.size bq x.bs ∧ OwnB w' w.heap.size sgq x.ss ∧ OwnB w' w.heap.size cfq x.cs ∧ Keep [] w w') := by
 have hB : Keep [] w w := Keep.refl _ _
 refine ad Tryd.func5 rfl (by decide) Tryd.ntmps5 rfl (fun fin _ hfin => ?_)
 refine aY (aX (ah (bz (cs := [g, .int .i64 x.ep, .int .i64 x.fr, .int .i64 x.lf, m, .int .i64 x.kd, b, .int .i64 x.wi, sg, cf]) rfl rfl) rfl ?_))
 rintro _ w1 ⟨b1, rfl, eb1, hb1, k1, z1⟩
 have ge_b1 : w.heap.size ≤ b1 := by have := hB.size; omega
 replace hB := hB.trans k1
 clear eb1 z1
 refine ah (cI bM) rfl ?_
 rintro _ w2 ⟨b2, rfl, eb2, hb2, k2, z2⟩
 have ge_b2 : w.heap.size ≤ b2 := by have := hB.size; omega
 have ne_b1_b2 : b1 ≠ b2 := by have := hb1.lt; omega
 replace hb1 := hb1.lh k2
 replace hB := hB.trans k2
 clear eb2 z2
 refine aZ (aY (cH 12 [0, 1, 3, 4, 5, 6, 8, 9, 2, 7, 10, 11] [2, 7, 10] [] mixed [(1, _), (2, _)] ⟨rfl, rfl, trivial⟩ (by decide +kernel) rfl (fun w3 k3 => ?_)))
 replace hb1 := hb1.lh k3
 replace hb2 := hb2.lh k3
 replace hB := hB.trans k3
 refine aq 1 rfl rfl rfl rfl (fun W' kk => aj 0 aL rfl ej (by decide) rfl rfl) ?_
 refine aq 3 rfl rfl rfl rfl (fun W' kk => an (cs' := [_, _, _, _, _, _, _]) jJ ej rfl (Bk.lh hb1 kk) rfl rfl) ?_
 refine aq 1 rfl rfl rfl rfl (fun W' kk => aj 7 aL rfl bJ (by decide) rfl rfl) ?_
 refine aq 6 rfl rfl rfl rfl (fun W' kk => ac bZ rfl (Bk.lh hb1 kk) rfl) ?_
 refine aq 1 rfl rfl rfl rfl (fun W' kk => aj 8 aL rfl az (by decide) rfl rfl) ?_
 refine aq 8 rfl rfl rfl rfl (fun W' kk => ac ba rfl (Bk.lh hb1 kk) rfl) ?_
 refine aq 1 rfl rfl rfl rfl (fun W' kk => aj 9 aL rfl az (by decide) rfl rfl) ?_
 refine aq 11 rfl rfl rfl rfl (fun W' kk => ac ba rfl (Bk.lh hb1 kk) rfl) ?_
 refine dK [(4, _)] rfl rfl ⟨rfl, trivial⟩ rfl (a7 (vs := [_]) rfl (jG g m b x.gs x.ms x.bs x.ep x.fr x.lf x.kd _ (hg.lh hB) (hm.lh hB) (hb.lh hB) (by omega) (by omega) (by omega))) ?_
 rintro _ w4 ⟨ng1, nm1, nb1, rfl, og1, om1, ob1, k4⟩
 refine ⟨k4, ?_⟩
 have gl_og1 := hB.size
 have sb_b2_og1 := fun x hx => (show x ≠ b2 from by have h1 := (og1.blk x hx).1; have h2 := hb2.lt; omega)
 have gl_om1 := hB.size
 have sb_b2_om1 := fun x hx => (show x ≠ b2 from by have h1 := (om1.blk x hx).1; have h2 := hb2.lt; omega)
 have gl_ob1 := hB.size
 have sb_b2_ob1 := fun x hx => (show x ≠ b2 from by have h1 := (ob1.blk x hx).1; have h2 := hb2.lt; omega)
 replace hb1 := hb1.lh k4
 replace hb2 := hb2.lh k4
 replace hB := hB.trans k4
 refine dK [(9, _)] rfl rfl ⟨rfl, trivial⟩ rfl (a7 (vs := [_]) rfl (eA _ _ _ (by first | assumption | exact Own.rd ‹_› | exact Rd.lh ‹_› hB | exact Own.rd (Own.lh ‹_› hB)) (by omega))) ?_
 rintro v1 w5 ⟨o1, k5⟩
 refine ⟨k5, ?_⟩
 have gl_o1 := hB.size
 have sb_b2_o1 := fun x hx => (show x ≠ b2 from by have h1 := (o1.blk x hx).1; have h2 := hb2.lt; omega)
 replace hb1 := hb1.lh k5
 replace hb2 := hb2.lh k5
 replace og1 := og1.lh k5
 replace om1 := om1.lh k5
 replace ob1 := ob1.lh k5
 replace hB := hB.trans k5
 refine dK [(12, _)] rfl rfl ⟨rfl, trivial⟩ rfl (a7 (vs := [_]) rfl (eA _ _ _ (by first | assumption | exact Own.rd ‹_› | exact Rd.lh ‹_› hB | exact Own.rd (Own.lh ‹_› hB)) (by omega))) ?_
 rintro v2 w6 ⟨o2, k6⟩
 refine ⟨k6, ?_⟩
 have gl_o2 := hB.size
 have sb_b2_o2 := fun x hx => (show x ≠ b2 from by have h1 := (o2.blk x hx).1; have h2 := hb2.lt; omega)
 replace hb1 := hb1.lh k6
 replace hb2 := hb2.lh k6
 replace og1 := og1.lh k6
 replace om1 := om1.lh k6
 replace ob1 := ob1.lh k6
 replace o1 := o1.lh k6
 replace hB := hB.trans k6
 refine pw_g [(5, _), (7, _), (10, _), (13, _)] rfl rfl ⟨rfl, rfl, rfl, rfl, trivial⟩ rfl (fun W' kk => cL (idx := [0, 1, 2, 3]) (xs := [.tmp 5, .tmp 7, .tmp 10, .tmp 13]) (vs := [_, _, _, _]) (css := [[ng1, .int .i64 x.ep, .int .i64 x.fr, .int .i64 x.lf, nm1, .int .i64 x.kd, nb1], [.int .i64 x.wi], [_], [_]]) (out := [ng1, .int .i64 x.ep, .int .i64 x.fr, .int .i64 x.lf, nm1, .int .i64 x.kd, nb1, .int .i64 x.wi, v1, v2]) fM bM rfl rfl ⟨rfl, rfl, Rd.cells (Own.rd o1), Rd.cells (Own.rd o2), trivial⟩ rfl rfl) ?_
 refine cY ?_
 refine am (bU bM rfl rfl rfl (by simp only [List.forall_mem_cons]; refine ⟨(by first | rfl | exact Rd.one (by first | assumption | exact Own.rd ‹_› | exact Rd.lh ‹_› hB | exact Own.rd (Own.lh ‹_› hB))), (by first | rfl | exact Rd.one (by first | assumption | exact Own.rd ‹_› | exact Rd.lh ‹_› hB | exact Own.rd (Own.lh ‹_› hB))), (by first | rfl | exact Rd.one (by first | assumption | exact Own.rd ‹_› | exact Rd.lh ‹_› hB | exact Own.rd (Own.lh ‹_› hB))), (by first | rfl | exact Rd.one (by first | assumption | exact Own.rd ‹_› | exact Rd.lh ‹_› hB | exact Own.rd (Own.lh ‹_› hB))), (by first | rfl | exact Rd.one (by first | assumption | exact Own.rd ‹_› | exact Rd.lh ‹_› hB | exact Own.rd (Own.lh ‹_› hB))), (by first | rfl | exact Rd.one (by first | assumption | exact Own.rd ‹_› | exact Rd.lh ‹_› hB | exact Own.rd (Own.lh ‹_› hB))), (by first | rfl | exact Rd.one (by first | assumption | exact Own.rd ‹_› | exact Rd.lh ‹_› hB | exact Own.rd (Own.lh ‹_› hB))), (by first | rfl | exact Rd.one (by first | assumption | exact Own.rd ‹_› | exact Rd.lh ‹_› hB | exact Own.rd (Own.lh ‹_› hB))), (by first | rfl | exact Rd.one (by first | assumption | exact Own.rd ‹_› | exact Rd.lh ‹_› hB | exact Own.rd (Own.lh ‹_› hB))), (by first | rfl | exact Rd.one (by first | assumption | exact Own.rd ‹_› | exact Rd.lh ‹_› hB | exact Own.rd (Own.lh ‹_› hB))), fun v hv => by cases hv⟩) hb2 rfl) ?_
 rintro _ w7 ⟨hb3, k7, z3⟩
 replace og1 := og1.keep k7 (fun x hx hm => sb_b2_og1 x hx (List.mem_singleton.1 hm))
 replace om1 := om1.keep k7 (fun x hx hm => sb_b2_om1 x hx (List.mem_singleton.1 hm))
 replace ob1 := ob1.keep k7 (fun x hx hm => sb_b2_ob1 x hx (List.mem_singleton.1 hm))
 replace o1 := o1.keep k7 (fun x hx hm => sb_b2_o1 x hx (List.mem_singleton.1 hm))
 replace o2 := o2.keep k7 (fun x hx hm => sb_b2_o2 x hx (List.mem_singleton.1 hm))
 replace hB := hB.new k7 (nw ge_b2)
 clear z3
 replace hb3 : Bk w7 b2 _ [ng1, .int .i64 x.ep, .int .i64 x.fr, .int .i64 x.lf, nm1, .int .i64 x.kd, nb1, .int .i64 x.wi, v1, v2] := hb3
 refine aZ (ab [(2, _)] ⟨rfl, trivial⟩ ?_)
 refine fW hfin Tryd.results5 rfl (ao cO bM hb3 rfl)  ?_
 exact ⟨_, _, _, _, _, rfl, og1.lo gl_og1, om1.lo gl_om1, ob1.lo gl_ob1, o1.lo gl_o1, o2.lo gl_o2, hB⟩
theorem dS (gs : List UInt8) (ep fr lf : Int) (ms : List UInt8) (kd : Int) (bs : List UInt8) : sameB gs ep fr lf ms kd bs gs ep fr lf ms kd bs = true := by unfold sameB; simp
theorem g6 (g m b sg cf : Value) (x : Fm) (w : World) (hg : RdB w g x.gs) (hm : RdB w m x.ms) (hb : RdB w b x.bs) (hs : RdB w sg x.ss) (hc : RdB w cf x.cs) (gq mq bq sgq cfq : Value) (wg : RdB w gq x.gs) (wm : RdB w mq x.ms) (wb : RdB w bq x.bs) (wsg : RdB w sgq x.ss) (wcf : RdB w cfq x.cs) : Rets Tryd.prog 13 [.agg [g, .int .i64 x.ep, .int .i64 x.fr, .int .i64 x.lf, m, .int .i64 x.kd, b, .int .i64 x.wi, sg, cf].toArray, .agg [gq, .int .i64 x.ep, .int .i64 x.fr, .int .i64 x.lf, mq, .int .i64 x.kd, bq, .int .i64 x.wi, sgq, cfq].toArray] w (fun r w' => r = .bool true ∧ Keep [] w w') := by
 have hB : Keep [] w w := Keep.refl _ _
 refine ad Tryd.func13 rfl (by decide) Tryd.ntmps13 rfl (fun fin _ hfin => ?_)
 refine aY (aX (ah (bz (cs := [g, .int .i64 x.ep, .int .i64 x.fr, .int .i64 x.lf, m, .int .i64 x.kd, b, .int .i64 x.wi, sg, cf]) rfl rfl) rfl ?_))
 rintro _ w1 ⟨b1, rfl, eb1, hb1, k1, z1⟩
 replace hB := hB.trans k1
 clear eb1 z1
 refine ah (bz (cs := [gq, .int .i64 x.ep, .int .i64 x.fr, .int .i64 x.lf, mq, .int .i64 x.kd, bq, .int .i64 x.wi, sgq, cfq]) rfl rfl) rfl ?_
 rintro _ w2 ⟨b2, rfl, eb2, hb2, k2, z2⟩
 replace hb1 := hb1.lh k2
 replace hB := hB.trans k2
 clear eb2 z2
 refine oga rfl rfl (aZ (aY (aX (a4 (aj 0 aN rfl dd (by decide) rfl rfl) rfl ?_))))
 refine a4 (an (cs' := [_, _, _, _, _, _, _]) fx dd rfl hb1 rfl rfl) rfl ?_
 refine a4 (aj 0 aL rfl ej (by decide) rfl rfl) rfl ?_
 refine a4 (an (cs' := [_, _, _, _, _, _, _]) jJ ej rfl hb2 rfl rfl) rfl ?_
 refine ah (a7 (vs := [_, _]) rfl (fo g m b x.gs x.ms x.bs x.ep x.fr x.lf x.kd _ (hg.lh hB) (hm.lh hB) (hb.lh hB) gq mq bq x.gs x.ms x.bs x.ep x.fr x.lf x.kd (wg.lh hB) (wm.lh hB) (wb.lh hB))) rfl ?_
 rintro _ w3 ⟨rfl, k3⟩
 replace hb1 := hb1.lh k3
 replace hb2 := hb2.lh k3
 replace hB := hB.trans k3
 refine ogm rfl rfl (gC (grdT rfl rfl rfl (dS _ _ _ _ _ _ _)) (aj 7 aN rfl bJ (by decide) rfl rfl) rfl ?_)
 refine gC (grdT rfl rfl rfl (dS _ _ _ _ _ _ _)) (ac bZ rfl hb1 rfl) rfl ?_
 refine gC (grdT rfl rfl rfl (dS _ _ _ _ _ _ _)) (aj 7 aL rfl bJ (by decide) rfl rfl) rfl ?_
 refine gC (grdT rfl rfl rfl (dS _ _ _ _ _ _ _)) (ac bZ rfl hb2 rfl) rfl ?_
 refine gC (grdT rfl rfl rfl (dS _ _ _ _ _ _ _)) (bF rfl rfl) rfl ?_
 refine a4 (iZ rfl (dS _ _ _ _ _ _ _) rfl) rfl ?_
 refine ogm rfl rfl (al 17 true rfl (fun c1 hgc1 => ?_))
 refine a5 [(2, _)] (aa rfl rfl rfl hgc1) ⟨au rfl, trivial⟩ (fun hw1 => aj 8 aN rfl az (by decide) rfl rfl) rfl ?_
 refine a5 [(18, _)] (aa rfl rfl rfl hgc1) ⟨ae rfl, trivial⟩ (fun hw2 => ac ba rfl hb1 rfl) rfl ?_
 refine a5 [(19, _)] (aa rfl rfl rfl hgc1) ⟨ae rfl, trivial⟩ (fun hw3 => dg aA aI aO rfl (by first | assumption | exact Own.rd ‹_› | exact Rd.lh ‹_› hB | exact Own.rd (Own.lh ‹_› hB))) rfl ?_
 refine a5 [(3, _)] (aa rfl rfl rfl hgc1) ⟨au rfl, trivial⟩ (fun hw4 => aj 8 aL rfl az (by decide) rfl rfl) rfl ?_
 refine a5 [(21, _)] (aa rfl rfl rfl hgc1) ⟨ae rfl, trivial⟩ (fun hw5 => ac ba rfl hb2 rfl) rfl ?_
 refine a5 [(22, _)] (aa rfl rfl rfl hgc1) ⟨ae rfl, trivial⟩ (fun hw6 => dg aA aI aO rfl (by first | assumption | exact Own.rd ‹_› | exact Rd.lh ‹_› hB | exact Own.rd (Own.lh ‹_› hB))) rfl ?_
 refine a5 [(20, _), (23, _)] (aa rfl rfl rfl hgc1) ⟨ae rfl, ae rfl, trivial⟩ (fun hw7 => f9 rfl rfl) rfl ?_
 refine a4 (ax rfl rfl hgc1) rfl ?_
 refine ogm rfl rfl (al 26 true rfl (fun c2 hgc2 => ?_))
 refine a5 [(2, _)] (aa rfl rfl rfl hgc2) ⟨au rfl, trivial⟩ (fun hw8 => aj 9 aN rfl az (by decide) rfl rfl) rfl ?_
 refine a5 [(27, _)] (aa rfl rfl rfl hgc2) ⟨ae rfl, trivial⟩ (fun hw9 => ac ba rfl hb1 rfl) rfl ?_
 refine a5 [(28, _)] (aa rfl rfl rfl hgc2) ⟨ae rfl, trivial⟩ (fun hw10 => dg aA aI aO rfl (by first | assumption | exact Own.rd ‹_› | exact Rd.lh ‹_› hB | exact Own.rd (Own.lh ‹_› hB))) rfl ?_
 refine a5 [(3, _)] (aa rfl rfl rfl hgc2) ⟨au rfl, trivial⟩ (fun hw11 => aj 9 aL rfl az (by decide) rfl rfl) rfl ?_
 refine a5 [(30, _)] (aa rfl rfl rfl hgc2) ⟨ae rfl, trivial⟩ (fun hw12 => ac ba rfl hb2 rfl) rfl ?_
 refine a5 [(31, _)] (aa rfl rfl rfl hgc2) ⟨ae rfl, trivial⟩ (fun hw13 => dg aA aI aO rfl (by first | assumption | exact Own.rd ‹_› | exact Rd.lh ‹_› hB | exact Own.rd (Own.lh ‹_› hB))) rfl ?_
 refine a5 [(29, _), (32, _)] (aa rfl rfl rfl hgc2) ⟨ae rfl, ae rfl, trivial⟩ (fun hw14 => f9 rfl rfl) rfl ?_
 refine a4 (ax rfl rfl hgc2) rfl ?_
 refine oga rfl rfl (aZ (ab [(4, _)] ⟨rfl, trivial⟩ ?_))
 refine af hfin Tryd.results13 rfl ?_
 exact ⟨by first | rfl | simp [dS], hB⟩
def knB : List UInt8 := putB [] 0 1 0 [] 1 []
theorem knB_len : knB.length = 17 := by decide
theorem kU (w : World) : Rets Tryd.prog 41 [.agg [.slice none 0 0, .int .i64 0, .int .i64 1, .int .i64 0, .slice none 0 0, .int .i64 1, .slice none 0 0].toArray] w (fun v w' => ∃ u, v = .tuple #[u, .int .i64 0] ∧ OwnB w' w.heap.size u knB ∧ Keep [] w w') :=
  (gH _ _ _ [] [] [] 0 1 0 1 w (Rd.nil _ _) (Rd.nil _ _) (Rd.nil _ _)).mono fun v w' ⟨u, h1, h2, h3⟩ => ⟨u, by rw [h1, show putE [] 0 1 0 [] 1 [] = 0 from by decide], h2, h3⟩
theorem j3 (w : World) : Rets Tryd.prog 10 [.slice none 0 0] w (fun r w' => ∃ g m b sg cf tg, r = .tuple #[.agg [g, .int .i64 fJ.ep, .int .i64 fJ.fr, .int .i64 fJ.lf, m, .int .i64 fJ.kd, b, .int .i64 fJ.wi, sg, cf].toArray, tg, .int .i64 21] ∧ (g.oneCell' = true ∧ m.oneCell' = true ∧ b.oneCell' = true ∧ sg.oneCell' = true ∧ cf.oneCell' = true ∧ tg.oneCell' = true) ∧ Keep [] w w') := by
  have hf : gpOkP [] = false := by decide
  refine (iG _ [] w (Rd.nil _ _) (Nat.zero_le _)).mono ?_
  rintro r w' ⟨g, m, b, sg, cf, tg, rfl, h1, h2, h3, h4, h5, h6, k⟩
  have eX : gpX [] = fJ := by unfold gpX; rw [hf]; rfl
  have eF : gpF [] = 21 := by unfold gpF; rw [hf]; rfl
  rw [eX, eF]
  exact ⟨g, m, b, sg, cf, tg, rfl, ⟨h1.rd.one, h2.rd.one, h3.rd.one, h4.rd.one, h5.rd.one, h6.rd.one⟩, k⟩
theorem kZ (w : World) : Rets Tryd.prog 15 [] w (fun r w' => r = .bool true ∧ Keep [] w w') := by
 have hB : Keep [] w w := Keep.refl _ _
 have hkn := knB_len
 refine ad Tryd.func15 rfl (by decide) Tryd.ntmps15 rfl (fun fin _ hfin => ?_)
 refine aY (aX (oga rfl rfl (aZ (aY (aX (a4 (cL (idx := [2, 5]) (xs := [.const (.int .i64 (1)), .const (.int .i64 (1))]) (vs := [_, _]) (css := [[_], [_]]) (out := [_, _, _, _, _, _, _]) pl28 dd rfl rfl ⟨rfl, rfl, trivial⟩ rfl rfl) rfl ?_))))))
 refine ah (a7 (vs := [_]) rfl (kU _)) rfl ?_
 rintro _ w1 ⟨u1, rfl, o1, k1⟩
 have gl_o1 := hB.size
 replace hB := hB.trans k1
 refine ogm rfl rfl (a4 (bm (vs := [_, _]) rfl rfl) rfl ?_)
 refine a4 (bm (vs := [_, _]) rfl rfl) rfl ?_
 refine oga rfl rfl (oga rfl rfl (aZ (aY (aX (ah (a7 (vs := [_]) rfl (j3 _)) rfl ?_)))))
 rintro _ w2 ⟨g1, m1, b1, sg1, cf1, tg1, rfl, h11, k2⟩
 replace o1 := o1.lh k2
 replace hB := hB.trans k2
 refine ogm rfl rfl (a4 (bm (vs := [_, _, _]) rfl rfl) rfl ?_)
 refine a4 (bm (vs := [_, _, _]) rfl rfl) rfl ?_
 refine a4 (bm (vs := [_, _, _]) rfl rfl) rfl ?_
 refine ah (cI bM) rfl ?_
 rintro _ w3 ⟨b2, rfl, eb1, hb1, k3, z1⟩
 have ge_b2 : w.heap.size ≤ b2 := by have := hB.size; omega
 have sb_b2_o1 := fun x hx => (show x ≠ b2 from by have := (o1.blk x hx).2; omega)
 replace o1 := o1.lh k3
 replace hB := hB.trans k3
 clear eb1 z1
 refine am (bU bM rfl rfl rfl (by simp only [List.forall_mem_cons]; obtain ⟨y1, y2, y3, y4, y5, y6⟩ := h11; exact ⟨y1, rfl, rfl, rfl, y2, rfl, y3, rfl, y4, y5, fun v hv => by cases hv⟩) hb1 rfl) ?_
 rintro _ w4 ⟨hb2, k4, z2⟩
 replace o1 := o1.keep k4 (fun x hx hm => sb_b2_o1 x hx (List.mem_singleton.1 hm))
 replace hB := hB.new k4 (nw ge_b2)
 clear z2
 replace hb2 : Bk w4 b2 _ [g1, .int .i64 fJ.ep, .int .i64 fJ.fr, .int .i64 fJ.lf, m1, .int .i64 fJ.kd, b1, .int .i64 fJ.wi, sg1, cf1] := hb2
 refine oga rfl rfl (oga rfl rfl (aZ (ab [(1, _), (2, _), (5, _)] ⟨rfl, rfl, rfl, trivial⟩ ?_)))
 refine aY (aX (ogm rfl rfl (ah (a7 (vs := [_]) rfl (fZ _ _)) rfl ?_)))
 rintro _ _ ⟨rfl, rfl⟩
 refine a4 (bF rfl rfl) rfl ?_
 refine ogm rfl rfl (al 19 true rfl (fun c1 hgc1 => ?_))
 refine a5 [(1, _)] (aa rfl rfl rfl hgc1) ⟨au rfl, trivial⟩ (fun hw1 => av rfl) rfl ?_
 refine a5 [(20, _)] (aa rfl rfl rfl hgc1) ⟨ae rfl, trivial⟩ (fun hw2 => bI aA rfl o1.rd) rfl ?_
 refine a5 [(21, _)] (aa rfl rfl rfl hgc1) ⟨ae rfl, trivial⟩ (fun hw3 => bF rfl rfl) rfl ?_
 refine a4 (ax rfl rfl hgc1) rfl ?_
 refine ogm rfl rfl (al 24 true rfl (fun c2 hgc2 => ?_))
 refine a5 [(1, _)] (aa rfl rfl rfl hgc2) ⟨au rfl, trivial⟩ (fun hw4 => av rfl) rfl ?_
 refine a5 [(25, _)] (aa rfl rfl rfl hgc2) ⟨ae rfl, trivial⟩ (fun hw5 => bR aA bu rfl o1.rd rfl (by omega)) rfl ?_
 refine a5 [(26, _)] (aa rfl rfl rfl hgc2) ⟨ae rfl, trivial⟩ (fun hw6 => eK jR rfl (by first | assumption | exact Own.rd ‹_› | exact Rd.lh ‹_› hB | exact Own.rd (Own.lh ‹_› hB)) (by omega)) rfl ?_
 refine a5 [(27, _)] (aa rfl rfl rfl hgc2) ⟨ae rfl, trivial⟩ (fun hw7 => bF rfl rfl) rfl ?_
 refine a4 (ax rfl rfl hgc2) rfl ?_
 refine ogm rfl rfl (al 30 true rfl (fun c3 hgc3 => ?_))
 refine a5 [(5, _)] (aa rfl rfl rfl hgc3) ⟨au rfl, trivial⟩ (fun hw8 => av rfl) rfl ?_
 refine dl [(31, _)] (aa rfl rfl rfl hgc3) ⟨ae rfl, trivial⟩ (fun hw9 => a7 (vs := [_]) rfl (fZ _ _)) rfl ?_
 refine a5 [(32, _)] (aa rfl rfl rfl hgc3) ⟨ae rfl, trivial⟩ (fun hw10 => bF rfl rfl) rfl ?_
 refine a4 (ax rfl rfl hgc3) rfl ?_
 refine oga rfl rfl (aZ (ab [(0, _)] ⟨rfl, trivial⟩ ?_))
 refine af hfin Tryd.results15 rfl ?_
 refine ⟨?_, hB⟩
 congr 1
theorem lN (v : Value) (xs : List UInt8) (w : World) (hv : RdB w v xs) (hx : xs.length ≤ 140737488351232) : Rets Tryd.prog 4 [v] w (fun r w' => ∃ u, r = cut u 0 xs.length 1 ∧ Own w' w.heap.size 5 1 u (xs.length + 2) (bv (xs ++ [201, 202])) ∧ Keep [] w w') := by
 have hB : Keep [] w w := Keep.refl _ _
 refine ad Tryd.func4 rfl (by decide) Tryd.ntmps4 rfl (fun fin _ hfin => ?_)
 refine aY (aX (oga rfl rfl (aZ (aY (aX ?_)))))
 have gl_oa := hB.size
 refine ah (d_bs0 aA bu rfl) rfl ?_
 rintro _ wg ⟨g, rfl, hge, hg0, kg⟩
 replace hB := hB.trans kg
 refine ogm rfl rfl (ah (lY (lo := w.heap.size) aA bu rfl rfl rfl hg0 (hge ▸ Nat.le_refl _) rfl (hv.lh hB) (by omega)) rfl ?_)
 rintro va wa ⟨oa, ka⟩
 replace hB := hB.trans ka
 refine oga rfl rfl (aZ (aY (aX (ogm rfl rfl ?_))))
 have hlo0 : w.heap.size ≤ wa.heap.size := Nat.le_trans kg.size ka.size
 refine ah (dA (m := 2) (xs := [.const (.int .u8 (201)), .const (.int .u8 (202))]) (vs := [_, _]) aA bu (by decide) rfl rfl rfl (by simp only [List.forall_mem_cons]; exact ⟨rfl, rfl, fun v hv => by cases hv⟩) (by decide)) rfl ?_
 rintro v1 w1 ⟨o1, nn1, lb1, k1, z1⟩
 have gl_o1 := hB.size
 replace oa := oa.lh k1
 replace hB := hB.trans k1
 replace o1 : Own w1 _ _ 1 v1 2 (bv [201, 202]) := o1
 have hlo := Nat.le_trans hlo0 k1.size
 refine ah (bS aA bu rfl oa rfl (show RdB _ _ [201, 202] from o1.rd) (by show xs.length + 2 ≤ _; omega) hlo) rfl ?_
 rintro vb wb ⟨ob, kb, _, _⟩
 replace hB := hB.new kb (fun x hx => .inl (Nat.le_trans gl_oa (oa.blk x hx).1))
 refine oga rfl rfl (aZ (aY (aX (ogm rfl rfl (ogm rfl rfl (a4 (bI aA rfl (by first | assumption | exact Own.rd ‹_› | exact Rd.lh ‹_› hB | exact Own.rd (Own.lh ‹_› hB))) rfl ?_))))))
 refine a4 (ek aA bu rfl ob.rd (.inl ⟨rfl, rfl⟩) (.inr ⟨_, _, rfl, rfl⟩) (by have := ob.rd.vcap; have : [(201 : UInt8), 202].length = 2 := rfl; omega)) rfl ?_
 refine oga rfl rfl (aZ (ab [(2, _)] ⟨rfl, trivial⟩ ?_))
 refine af hfin Tryd.results4 rfl ?_
 exact ⟨vb, rfl, ob.lo gl_oa, hB⟩
theorem kF (u v : Value) (xs : List UInt8) (lo : Nat) (w : World) (ho : Own w lo 5 1 u (xs.length + 2) (bv (xs ++ [201, 202]))) (hv : RdB w v xs) (hx : xs.length ≤ 140737488351232) : Rets Tryd.prog 14 [cut u 0 xs.length 1, v] w (fun r w' => r = .bool true ∧ Keep [] w w') := by
  have hB : Keep [] w w := Keep.refl _ _
  obtain ⟨u10, hu10⟩ : ∃ u10, u10 = cut (cut u 0 xs.length 1) (0 : Int).toNat ((xs.length : Int) + 2).toNat 1 := ⟨_, rfl⟩
  have hall : RdB w u (xs ++ [201, 202]) := by unfold RdB; rw [List.length_append]; exact ho.rd
  have h10 : RdB w u10 (xs ++ [201, 202]) := by
    have e : cut (cut u 0 xs.length 1) (0 : Int).toNat ((xs.length : Int) + 2).toNat 1 = cut u 0 (xs.length + 2) 1 := by rw [show (0 : Int).toNat = 0 from rfl, show ((xs.length : Int) + 2).toNat = xs.length + 2 by omega]; exact cut_cut hall
    rw [hu10, e]
    have h := hall.cutB (l := 0) (hi := xs.length + 2) (by omega) (by simp)
    rwa [List.drop_zero, Nat.sub_zero, List.take_of_length_le (by simp)] at h
  have h14 : RdB w (cut u10 0 xs.length 1) xs := by
    have h := h10.cutB (l := 0) (hi := xs.length) (by omega) (by simp)
    rwa [List.drop_zero, Nat.sub_zero, List.take_left' rfl] at h
  have hcap : (0 : Int) ≤ 0 ∧ (0 : Int) ≤ (xs.length : Int) + 2 ∧ (xs.length : Int) + 2 ≤ (vcap (cut u 0 xs.length 1) : Int) := by
    obtain ⟨A, c, e, h1, h2, _⟩ := hall
    subst e
    rw [List.length_append] at h1
    have h1 : xs.length + 2 ≤ c := h1
    refine ⟨Int.le_refl _, by omega, ?_⟩
    show (xs.length : Int) + 2 ≤ ((c - 0 : Nat) : Int)
    omega
  refine ad Tryd.func14 rfl (by decide) Tryd.ntmps14 rfl (fun fin _ hfin => ?_)
  refine aY ?_
  refine aX ?_
  refine oga rfl rfl ?_
  refine aZ ?_
  refine aY ?_
  refine aX ?_
  refine ogm rfl rfl ?_
  refine ogm rfl rfl ?_
  refine a4 (bI aA rfl (by first | assumption | exact Own.rd (by assumption) | exact Rd.lh (by assumption) hB | exact Own.rd (Own.lh (by assumption) hB))) rfl ?_
  refine a4 (br rfl rfl (by omega)) rfl ?_
  refine a4 (v := u10) (by rw [hu10]; exact ek aA bu rfl (jk ho) (.inl ⟨rfl, rfl⟩) (.inr ⟨_, _, rfl, rfl⟩) hcap) rfl ?_
  refine oga rfl rfl ?_
  refine aZ ?_
  refine aY ?_
  refine cR 26 [0, 1, 2, 3, 4, 5, 6, 7, 8, 9, 10, 11, 12, 13, 14, 15, 16, 17, 18, 19, 20, 21, 22, 23, 24, 25] [] [] [] mixed [(5, _), (1, _)] ⟨rfl, rfl, trivial⟩ (by decide +kernel) (by decide) (by decide) ?_ (fun x hx => by cases hx) rfl (fun w1 k1 => ?_)
  · intro q hq; cases hq
  replace hB := hB.trans k1
  refine cM 5 rfl rfl rfl rfl rfl ?_
  refine cM 1 rfl rfl rfl rfl rfl ?_
  refine bY 12 rfl rfl rfl rfl (fun W' kk => bI aA rfl (by first | exact Rd.lh (by assumption) kk | exact Rd.lh (Own.rd (by assumption)) kk | exact Rd.lh (Rd.lh (by assumption) hB) kk | exact Rd.lh (Own.rd (Own.lh (by assumption) hB)) kk)) ?_
  refine cZ 11 13 rfl rfl rfl rfl rfl (fun W' kk => ek aA bu rfl (by first | exact Rd.lh (by assumption) kk | exact Rd.lh (Own.rd (by assumption)) kk | exact Rd.lh (Rd.lh (by assumption) hB) kk | exact Rd.lh (Own.rd (Own.lh (by assumption) hB)) kk) (.inl ⟨rfl, rfl⟩) (.inr ⟨_, _, rfl, rfl⟩) (by have := h10.vcap; simp only [List.length_append, List.length_cons, List.length_nil] at this; omega)) ?_
  refine bY 14 rfl rfl rfl rfl (fun W' kk => dg aA aI aO rfl (by first | exact Rd.lh (by assumption) kk | exact Rd.lh (Own.rd (by assumption)) kk | exact Rd.lh (Rd.lh (by assumption) hB) kk | exact Rd.lh (Own.rd (Own.lh (by assumption) hB)) kk)) ?_
  refine cM 1 rfl rfl rfl rfl rfl ?_
  refine bY 16 rfl rfl rfl rfl (fun W' kk => dg aA aI aO rfl (by first | exact Rd.lh (by assumption) kk | exact Rd.lh (Own.rd (by assumption)) kk | exact Rd.lh (Rd.lh (by assumption) hB) kk | exact Rd.lh (Own.rd (Own.lh (by assumption) hB)) kk)) ?_
  refine cZ 15 17 rfl rfl rfl rfl rfl (fun W' kk => f9 rfl rfl) ?_
  refine cM 18 rfl rfl rfl rfl rfl ?_
  refine eS [(5, _), (19, _)] rfl rfl ⟨rfl, rfl, trivial⟩ rfl (grdT rfl rfl rfl (decide_eq_true rfl)) (fun W' kk => av rfl) ?_
  refine eS [(1, _), (19, _)] rfl rfl ⟨rfl, rfl, trivial⟩ rfl (grdT rfl rfl rfl (decide_eq_true rfl)) (fun W' kk => av rfl) ?_
  refine eS [(19, _), (21, _)] rfl rfl ⟨rfl, rfl, trivial⟩ rfl (grdT rfl rfl rfl (decide_eq_true rfl)) (fun W' kk => bI aA rfl (by first | exact Rd.lh (by assumption) kk | exact Rd.lh (Own.rd (by assumption)) kk | exact Rd.lh (Rd.lh (by assumption) hB) kk | exact Rd.lh (Own.rd (Own.lh (by assumption) hB)) kk)) ?_
  refine eS [(19, _), (20, _), (22, _)] rfl rfl ⟨rfl, rfl, rfl, trivial⟩ rfl (grdT rfl rfl rfl (decide_eq_true rfl)) (fun W' kk => bR aA bu rfl (by first | exact Rd.lh (by assumption) kk | exact Rd.lh (Own.rd (by assumption)) kk | exact Rd.lh (Rd.lh (by assumption) hB) kk | exact Rd.lh (Own.rd (Own.lh (by assumption) hB)) kk) rfl (by simp only [List.length_append, List.length_cons, List.length_nil]; omega)) ?_
  refine eS [(19, _), (23, _)] rfl rfl ⟨rfl, rfl, trivial⟩ rfl (grdT rfl rfl rfl (decide_eq_true rfl)) (fun W' kk => eK jR rfl (by first | exact Rd.lh (by assumption) kk | exact Rd.lh (Own.rd (by assumption)) kk | exact Rd.lh (Rd.lh (by assumption) hB) kk | exact Rd.lh (Own.rd (Own.lh (by assumption) hB)) kk) (by simp only [List.length_append, List.length_cons, List.length_nil]; omega)) ?_
  refine eS [(19, _), (24, _)] rfl rfl ⟨rfl, rfl, trivial⟩ rfl (grdT rfl rfl rfl (decide_eq_true rfl)) (fun W' kk => bF rfl rfl) ?_
  refine cZ 19 25 rfl rfl rfl rfl rfl (fun W' kk => iZ rfl (decide_eq_true rfl) rfl) ?_
  refine cM 26 rfl rfl rfl rfl rfl ?_
  refine eS [(5, _), (27, _)] rfl rfl ⟨rfl, rfl, trivial⟩ rfl (grdT rfl rfl rfl (decide_eq_true (gD xs))) (fun W' kk => av rfl) ?_
  refine eS [(1, _), (27, _)] rfl rfl ⟨rfl, rfl, trivial⟩ rfl (grdT rfl rfl rfl (decide_eq_true (gD xs))) (fun W' kk => av rfl) ?_
  refine eS [(27, _), (29, _)] rfl rfl ⟨rfl, rfl, trivial⟩ rfl (grdT rfl rfl rfl (decide_eq_true (gD xs))) (fun W' kk => bI aA rfl (by first | exact Rd.lh (by assumption) kk | exact Rd.lh (Own.rd (by assumption)) kk | exact Rd.lh (Rd.lh (by assumption) hB) kk | exact Rd.lh (Own.rd (Own.lh (by assumption) hB)) kk)) ?_
  refine eS [(27, _), (30, _)] rfl rfl ⟨rfl, rfl, trivial⟩ rfl (grdT rfl rfl rfl (decide_eq_true (gD xs))) (fun W' kk => br rfl rfl (by omega)) ?_
  refine eS [(27, _), (28, _), (31, _)] rfl rfl ⟨rfl, rfl, rfl, trivial⟩ rfl (grdT rfl rfl rfl (decide_eq_true (gD xs))) (fun W' kk => bR aA bu rfl (by first | exact Rd.lh (by assumption) kk | exact Rd.lh (Own.rd (by assumption)) kk | exact Rd.lh (Rd.lh (by assumption) hB) kk | exact Rd.lh (Own.rd (Own.lh (by assumption) hB)) kk) rfl (by simp only [List.length_append, List.length_cons, List.length_nil]; omega)) ?_
  refine eS [(27, _), (32, _)] rfl rfl ⟨rfl, rfl, trivial⟩ rfl (grdT rfl rfl rfl (decide_eq_true (gD xs))) (fun W' kk => eK jR rfl (by first | exact Rd.lh (by assumption) kk | exact Rd.lh (Own.rd (by assumption)) kk | exact Rd.lh (Rd.lh (by assumption) hB) kk | exact Rd.lh (Own.rd (Own.lh (by assumption) hB)) kk) (by simp only [List.length_append, List.length_cons, List.length_nil]; omega)) ?_
  refine eS [(27, _), (33, _)] rfl rfl ⟨rfl, rfl, trivial⟩ rfl (grdT rfl rfl rfl (decide_eq_true (gD xs))) (fun W' kk => bF rfl rfl) ?_
  refine cZ 27 34 rfl rfl rfl rfl rfl (fun W' kk => iZ rfl (decide_eq_true (gD xs)) rfl) ?_
  refine bY 35 rfl rfl rfl rfl (fun W' kk => ft rfl) ?_
  refine dc (fun w2 k2 => ?_)
  replace hB := hB.trans k2
  refine cT ?_
  refine aZ ?_
  refine ab [(4, _)] ⟨rfl, trivial⟩ ?_
  refine af hfin Tryd.results14 rfl ?_
  exact ⟨by rw [decide_eq_true (mark2 xs)], hB⟩
attribute [local irreducible] tgE tgB ppB gpX gpT gpF
theorem it (g m b sg cf mv cv v : Value) (x : Fm) (mem ctx c : List UInt8) (w : World) (hT : Tabs w) (hg : RdB w g x.gs) (hm : RdB w m x.ms) (hb : RdB w b x.bs) (hs : RdB w sg x.ss) (hc : RdB w cf x.cs) (hmv : RdB w mv mem) (hml : mem.length ≤ 140737488351232) (hcv : RdB w cv ctx) (tg : x.gs.length ≤ 140737488351232) (tm : x.ms.length ≤ 140737488351232) (tb : x.bs.length ≤ 140737488351232) (ts : x.ss.length ≤ 140737488351232) (tc : x.cs.length ≤ 140737488351232) (hv : RdB w v c) (hc9 : c.length ≤ 140737488351232) : Rets Tryd.prog 3 [.agg [g, .int .i64 x.ep, .int .i64 x.fr, .int .i64 x.lf, m, .int .i64 x.kd, b, .int .i64 x.wi, sg, cf].toArray, mv, cv, v] w (fun r w' => r = .bool true ∧ Keep [] w w') := by
 have hB : Keep [] w w := Keep.refl _ _
 refine ad Tryd.func3 rfl (by decide) Tryd.ntmps3 rfl (fun fin _ hfin => ?_)
 refine aY (aX (ah (bz (cs := [g, .int .i64 x.ep, .int .i64 x.fr, .int .i64 x.lf, m, .int .i64 x.kd, b, .int .i64 x.wi, sg, cf]) rfl rfl) rfl ?_))
 rintro _ w1 ⟨b1, rfl, eb1, hb1, k1, z1⟩
 have ge_b1 : w.heap.size ≤ b1 := by have := hB.size; omega
 replace hB := hB.trans k1
 clear eb1 z1
 refine oga rfl rfl (aZ (aY (aX (ogm rfl rfl (ah (a7 (vs := [_]) rfl (lN _ c _ (by first | assumption | exact Own.rd ‹_› | exact Rd.lh ‹_› hB | exact Own.rd (Own.lh ‹_› hB)) hc9)) rfl ?_)))))
 rintro _ w2 ⟨u1, rfl, o1, k2⟩
 have gl_o1 := hB.size
 replace hb1 := hb1.lh k2
 replace hB := hB.trans k2
 refine oga rfl rfl (aZ (aY (aX (a4 (an (cs' := [_, _, _, _, _, _, _, _, _, _]) cd bc rfl hb1 rfl rfl) rfl ?_))))
 refine ah (a7 (vs := [_]) rfl (jQ _ _ _ _ _ x _ (hg.lh hB) (hm.lh hB) (hb.lh hB) (hs.lh hB) (hc.lh hB) tg tm tb ts tc)) rfl ?_
 rintro _ w3 ⟨g1, m1, b2, sg1, cf1, rfl, fg1, fm1, fb1, fsg1, fcf1, k3⟩
 replace hb1 := hb1.lh k3
 replace o1 := o1.lh k3
 replace hB := hB.trans k3
 have hK1 : Keep [] w3 w3 := Keep.refl _ _
 refine ah (cI bM) rfl ?_
 rintro _ w4 ⟨b3, rfl, eb2, hb2, k4, z2⟩
 have gb_hK1_b3 : w3.heap.size ≤ b3 := by have := hK1.size; omega
 have ge_b3 : w.heap.size ≤ b3 := by have := hB.size; omega
 have ne_b1_b3 : b1 ≠ b3 := by have := hb1.lt; omega
 have sb_b3_o1 := fun x hx => (show x ≠ b3 from by have := (o1.blk x hx).2; omega)
 replace hb1 := hb1.lh k4
 replace o1 := o1.lh k4
 replace hB := hB.trans k4
 replace hK1 := hK1.trans k4
 clear eb2 z2
 refine am (bU bM rfl rfl rfl (by simp only [List.forall_mem_cons]; exact ⟨(fg1.rd.lh hK1).one, rfl, rfl, rfl, (fm1.rd.lh hK1).one, rfl, (fb1.rd.lh hK1).one, rfl, (fsg1.rd.lh hK1).one, (fcf1.rd.lh hK1).one, fun v hv => by cases hv⟩) hb2 rfl) ?_
 rintro _ w5 ⟨hb3, k5, z3⟩
 replace hb1 := hb1.keep k5 (nm ne_b1_b3)
 replace o1 := o1.keep k5 (fun x hx hm => sb_b3_o1 x hx (List.mem_singleton.1 hm))
 replace hB := hB.new k5 (nw ge_b3)
 replace hK1 := hK1.new k5 (nw gb_hK1_b3)
 clear z3
 replace hb3 : Bk w5 b3 _ [g1, .int .i64 x.ep, .int .i64 x.fr, .int .i64 x.lf, m1, .int .i64 x.kd, b2, .int .i64 x.wi, sg1, cf1] := hb3
 refine aZ (aY (aX (a4 (an (cs' := [_, _, _, _, _, _, _, _, _, _]) cO bM rfl hb3 rfl rfl) rfl ?_)))
 refine ogm rfl rfl (ogm rfl rfl (ah (a7 (vs := [_, _, _]) rfl (jA _ _ _ _ _ _ _ x mem ctx _ (hT.lh hB) (fg1.rd.lh hK1) (fm1.rd.lh hK1) (fb1.rd.lh hK1) (fsg1.rd.lh hK1) (fcf1.rd.lh hK1) (hmv.lh hB) hml (hcv.lh hB))) rfl ?_))
 rintro _ w6 ⟨u2, rfl, o2, k6⟩
 have gl_o2 := hB.size
 replace hb1 := hb1.lh k6
 replace o1 := o1.lh k6
 replace hb3 := hb3.lh k6
 replace hB := hB.trans k6
 replace hK1 := hK1.trans k6
 refine ogm rfl rfl (a4 (bm (vs := [_, _]) rfl rfl) rfl ?_)
 refine a4 (bm (vs := [_, _]) rfl rfl) rfl ?_
 refine oga rfl rfl (oga rfl rfl (aZ (ab [(1, _), (2, _), (3, _), (4, _), (9, _), (10, _), (11, _), (12, _)] ⟨rfl, rfl, rfl, rfl, rfl, rfl, rfl, rfl, trivial⟩ ?_)))
 refine aY (aX (a4 (an (cs' := [_, _, _, _, _, _, _, _, _, _]) cd bc rfl hb1 rfl rfl) rfl ?_))
 refine ogm rfl rfl (ogm rfl rfl (ah (a7 (vs := [_, _, _]) rfl (ig _ _ _ _ _ _ _ x mem ctx _ (hg.lh hB) (hm.lh hB) (hb.lh hB) (hs.lh hB) (hc.lh hB) (hmv.lh hB) hml (hcv.lh hB))) rfl ?_))
 rintro _ w7 ⟨u3, rfl, o3, k7⟩
 have gl_o3 := hB.size
 replace hb1 := hb1.lh k7
 replace o1 := o1.lh k7
 replace hb3 := hb3.lh k7
 replace o2 := o2.lh k7
 replace hB := hB.trans k7
 replace hK1 := hK1.trans k7
 refine ogm rfl rfl (a4 (bm (vs := [_, _]) rfl rfl) rfl ?_)
 refine a4 (bm (vs := [_, _]) rfl rfl) rfl ?_
 refine oga rfl rfl (oga rfl rfl (aZ (aY (aX (a4 (an (cs' := [_, _, _, _, _, _, _, _, _, _]) cO bM rfl hb3 rfl rfl) rfl ?_)))))
 refine ogm rfl rfl (ogm rfl rfl (ah (a7 (vs := [_, _, _]) rfl (lV _ _ _ _ _ _ _ x mem ctx _ (hT.lh hB) (fg1.rd.lh hK1) (fm1.rd.lh hK1) (fb1.rd.lh hK1) (fsg1.rd.lh hK1) (fcf1.rd.lh hK1) (hmv.lh hB) hml (hcv.lh hB))) rfl ?_))
 rintro _ w8 ⟨u4, rfl, o4, k8⟩
 have gl_o4 := hB.size
 replace hb1 := hb1.lh k8
 replace o1 := o1.lh k8
 replace hb3 := hb3.lh k8
 replace o2 := o2.lh k8
 replace o3 := o3.lh k8
 replace hB := hB.trans k8
 replace hK1 := hK1.trans k8
 refine ogm rfl rfl (a4 (bm (vs := [_, _]) rfl rfl) rfl ?_)
 refine a4 (bm (vs := [_, _]) rfl rfl) rfl ?_
 refine oga rfl rfl (oga rfl rfl (aZ (ab [(1, _), (2, _), (3, _), (4, _), (9, _), (10, _), (11, _), (12, _), (13, _), (14, _), (15, _), (16, _)] ⟨rfl, rfl, rfl, rfl, rfl, rfl, rfl, rfl, rfl, rfl, rfl, rfl, trivial⟩ ?_)))
 refine aY (aX (a4 (an (cs' := [_, _, _, _, _, _, _, _, _, _]) cd bc rfl hb1 rfl rfl) rfl ?_))
 refine ogm rfl rfl (ogm rfl rfl (ah (a7 (vs := [_, _, _]) rfl (ky _ _ _ _ _ _ _ x mem ctx _ (hg.lh hB) (hm.lh hB) (hb.lh hB) (hs.lh hB) (hc.lh hB) (hmv.lh hB) hml (hcv.lh hB))) rfl ?_))
 rintro _ w9 ⟨u5, rfl, o5, k9⟩
 have gl_o5 := hB.size
 replace hb1 := hb1.lh k9
 replace o1 := o1.lh k9
 replace hb3 := hb3.lh k9
 replace o2 := o2.lh k9
 replace o3 := o3.lh k9
 replace o4 := o4.lh k9
 replace hB := hB.trans k9
 replace hK1 := hK1.trans k9
 refine ogm rfl rfl (a4 (bm (vs := [_, _]) rfl rfl) rfl ?_)
 refine a4 (bm (vs := [_, _]) rfl rfl) rfl ?_
 refine oga rfl rfl (oga rfl rfl (aZ (aY (aX (ogm rfl rfl (ah (a7 (vs := [_]) rfl (iG _ c _ (jk o1) hc9)) rfl ?_))))))
 rintro _ w10 ⟨g2, m2, b4, sg2, cf2, tg1, rfl, fg2, fm2, fb2, fsg2, fcf2, otg1, k10⟩
 have gl_otg1 := hB.size
 replace hb1 := hb1.lh k10
 replace o1 := o1.lh k10
 replace hb3 := hb3.lh k10
 replace o2 := o2.lh k10
 replace o3 := o3.lh k10
 replace o4 := o4.lh k10
 replace o5 := o5.lh k10
 replace hB := hB.trans k10
 replace hK1 := hK1.trans k10
 have hK2 : Keep [] w10 w10 := Keep.refl _ _
 refine ogm rfl rfl (a4 (bm (vs := [_, _, _]) rfl rfl) rfl ?_)
 refine a4 (bm (vs := [_, _, _]) rfl rfl) rfl ?_
 refine a4 (bm (vs := [_, _, _]) rfl rfl) rfl ?_
 refine ah (cI bM) rfl ?_
 rintro _ w11 ⟨b5, rfl, eb3, hb4, k11, z4⟩
 have gb_hK1_b5 : w3.heap.size ≤ b5 := by have := hK1.size; omega
 have gb_hK2_b5 : w10.heap.size ≤ b5 := by have := hK2.size; omega
 have ge_b5 : w.heap.size ≤ b5 := by have := hB.size; omega
 have ne_b1_b5 : b1 ≠ b5 := by have := hb1.lt; omega
 have sb_b5_o1 := fun x hx => (show x ≠ b5 from by have := (o1.blk x hx).2; omega)
 have ne_b3_b5 : b3 ≠ b5 := by have := hb3.lt; omega
 have sb_b5_o2 := fun x hx => (show x ≠ b5 from by have := (o2.blk x hx).2; omega)
 have sb_b5_o3 := fun x hx => (show x ≠ b5 from by have := (o3.blk x hx).2; omega)
 have sb_b5_o4 := fun x hx => (show x ≠ b5 from by have := (o4.blk x hx).2; omega)
 have sb_b5_o5 := fun x hx => (show x ≠ b5 from by have := (o5.blk x hx).2; omega)
 have sb_b5_otg1 := fun x hx => (show x ≠ b5 from by have := (otg1.blk x hx).2; omega)
 replace hb1 := hb1.lh k11
 replace o1 := o1.lh k11
 replace hb3 := hb3.lh k11
 replace o2 := o2.lh k11
 replace o3 := o3.lh k11
 replace o4 := o4.lh k11
 replace o5 := o5.lh k11
 replace otg1 := otg1.lh k11
 replace hB := hB.trans k11
 replace hK1 := hK1.trans k11
 replace hK2 := hK2.trans k11
 clear eb3 z4
 refine am (bU bM rfl rfl rfl (by simp only [List.forall_mem_cons]; exact ⟨(fg2.rd.lh hK2).one, rfl, rfl, rfl, (fm2.rd.lh hK2).one, rfl, (fb2.rd.lh hK2).one, rfl, (fsg2.rd.lh hK2).one, (fcf2.rd.lh hK2).one, fun v hv => by cases hv⟩) hb4 rfl) ?_
 rintro _ w12 ⟨hb5, k12, z5⟩
 replace hb1 := hb1.keep k12 (nm ne_b1_b5)
 replace o1 := o1.keep k12 (fun x hx hm => sb_b5_o1 x hx (List.mem_singleton.1 hm))
 replace hb3 := hb3.keep k12 (nm ne_b3_b5)
 replace o2 := o2.keep k12 (fun x hx hm => sb_b5_o2 x hx (List.mem_singleton.1 hm))
 replace o3 := o3.keep k12 (fun x hx hm => sb_b5_o3 x hx (List.mem_singleton.1 hm))
 replace o4 := o4.keep k12 (fun x hx hm => sb_b5_o4 x hx (List.mem_singleton.1 hm))
 replace o5 := o5.keep k12 (fun x hx hm => sb_b5_o5 x hx (List.mem_singleton.1 hm))
 replace otg1 := otg1.keep k12 (fun x hx hm => sb_b5_otg1 x hx (List.mem_singleton.1 hm))
 replace hB := hB.new k12 (nw ge_b5)
 replace hK1 := hK1.new k12 (nw gb_hK1_b5)
 replace hK2 := hK2.new k12 (nw gb_hK2_b5)
 clear z5
 replace hb5 : Bk w12 b5 _ [g2, .int .i64 (gpX c).ep, .int .i64 (gpX c).fr, .int .i64 (gpX c).lf, m2, .int .i64 (gpX c).kd, b4, .int .i64 (gpX c).wi, sg2, cf2] := hb5
 refine oga rfl rfl (oga rfl rfl (aZ (ab [(3, _), (4, _), (9, _), (10, _), (11, _), (12, _), (13, _), (14, _), (15, _), (16, _), (17, _), (18, _), (19, _), (20, _), (21, _)] ⟨rfl, rfl, rfl, rfl, rfl, rfl, rfl, rfl, rfl, rfl, rfl, rfl, rfl, rfl, rfl, trivial⟩ ?_)))
 refine aY (aX (ogm rfl rfl (ah (a7 (vs := [_]) rfl (kO _ c _ (by first | assumption | exact Own.rd ‹_› | exact Rd.lh ‹_› hB | exact Own.rd (Own.lh ‹_› hB)) hc9)) rfl ?_)))
 rintro _ w13 ⟨g3, m3, b6, sg3, cf3, tg2, rfl, fg3, fm3, fb3, fsg3, fcf3, otg2, k13⟩
 have gl_otg2 := hB.size
 replace hb1 := hb1.lh k13
 replace o1 := o1.lh k13
 replace hb3 := hb3.lh k13
 replace o2 := o2.lh k13
 replace o3 := o3.lh k13
 replace o4 := o4.lh k13
 replace o5 := o5.lh k13
 replace otg1 := otg1.lh k13
 replace hb5 := hb5.lh k13
 replace hB := hB.trans k13
 replace hK1 := hK1.trans k13
 replace hK2 := hK2.trans k13
 have hK3 : Keep [] w13 w13 := Keep.refl _ _
 refine ogm rfl rfl (a4 (bm (vs := [_, _, _]) rfl rfl) rfl ?_)
 refine a4 (bm (vs := [_, _, _]) rfl rfl) rfl ?_
 refine a4 (bm (vs := [_, _, _]) rfl rfl) rfl ?_
 refine ah (cI bc) rfl ?_
 rintro _ w14 ⟨b7, rfl, eb4, hb6, k14, z6⟩
 have gb_hK1_b7 : w3.heap.size ≤ b7 := by have := hK1.size; omega
 have gb_hK2_b7 : w10.heap.size ≤ b7 := by have := hK2.size; omega
 have gb_hK3_b7 : w13.heap.size ≤ b7 := by have := hK3.size; omega
 have ge_b7 : w.heap.size ≤ b7 := by have := hB.size; omega
 have ne_b1_b7 : b1 ≠ b7 := by have := hb1.lt; omega
 have sb_b7_o1 := fun x hx => (show x ≠ b7 from by have := (o1.blk x hx).2; omega)
 have ne_b3_b7 : b3 ≠ b7 := by have := hb3.lt; omega
 have sb_b7_o2 := fun x hx => (show x ≠ b7 from by have := (o2.blk x hx).2; omega)
 have sb_b7_o3 := fun x hx => (show x ≠ b7 from by have := (o3.blk x hx).2; omega)
 have sb_b7_o4 := fun x hx => (show x ≠ b7 from by have := (o4.blk x hx).2; omega)
 have sb_b7_o5 := fun x hx => (show x ≠ b7 from by have := (o5.blk x hx).2; omega)
 have sb_b7_otg1 := fun x hx => (show x ≠ b7 from by have := (otg1.blk x hx).2; omega)
 have ne_b5_b7 : b5 ≠ b7 := by have := hb5.lt; omega
 have sb_b7_otg2 := fun x hx => (show x ≠ b7 from by have := (otg2.blk x hx).2; omega)
 replace hb1 := hb1.lh k14
 replace o1 := o1.lh k14
 replace hb3 := hb3.lh k14
 replace o2 := o2.lh k14
 replace o3 := o3.lh k14
 replace o4 := o4.lh k14
 replace o5 := o5.lh k14
 replace otg1 := otg1.lh k14
 replace hb5 := hb5.lh k14
 replace otg2 := otg2.lh k14
 replace hB := hB.trans k14
 replace hK1 := hK1.trans k14
 replace hK2 := hK2.trans k14
 replace hK3 := hK3.trans k14
 clear eb4 z6
 refine am (bU bc rfl rfl rfl (by simp only [List.forall_mem_cons]; exact ⟨(fg3.rd.lh hK3).one, rfl, rfl, rfl, (fm3.rd.lh hK3).one, rfl, (fb3.rd.lh hK3).one, rfl, (fsg3.rd.lh hK3).one, (fcf3.rd.lh hK3).one, fun v hv => by cases hv⟩) hb6 rfl) ?_
 rintro _ w15 ⟨hb7, k15, z7⟩
 replace hb1 := hb1.keep k15 (nm ne_b1_b7)
 replace o1 := o1.keep k15 (fun x hx hm => sb_b7_o1 x hx (List.mem_singleton.1 hm))
 replace hb3 := hb3.keep k15 (nm ne_b3_b7)
 replace o2 := o2.keep k15 (fun x hx hm => sb_b7_o2 x hx (List.mem_singleton.1 hm))
 replace o3 := o3.keep k15 (fun x hx hm => sb_b7_o3 x hx (List.mem_singleton.1 hm))
 replace o4 := o4.keep k15 (fun x hx hm => sb_b7_o4 x hx (List.mem_singleton.1 hm))
 replace o5 := o5.keep k15 (fun x hx hm => sb_b7_o5 x hx (List.mem_singleton.1 hm))
 replace otg1 := otg1.keep k15 (fun x hx hm => sb_b7_otg1 x hx (List.mem_singleton.1 hm))
 replace hb5 := hb5.keep k15 (nm ne_b5_b7)
 replace otg2 := otg2.keep k15 (fun x hx hm => sb_b7_otg2 x hx (List.mem_singleton.1 hm))
 replace hB := hB.new k15 (nw ge_b7)
 replace hK1 := hK1.new k15 (nw gb_hK1_b7)
 replace hK2 := hK2.new k15 (nw gb_hK2_b7)
 replace hK3 := hK3.new k15 (nw gb_hK3_b7)
 clear z7
 replace hb7 : Bk w15 b7 _ [g3, .int .i64 (gpX c).ep, .int .i64 (gpX c).fr, .int .i64 (gpX c).lf, m3, .int .i64 (gpX c).kd, b6, .int .i64 (gpX c).wi, sg3, cf3] := hb7
 refine oga rfl rfl (oga rfl rfl (aZ (aY (aX (ogm rfl rfl (a4 (dg aA aI aO rfl (by first | assumption | exact Own.rd ‹_› | exact Rd.lh ‹_› hB | exact Own.rd (Own.lh ‹_› hB))) rfl ?_))))))
 refine ogm rfl rfl (a4 (dg aA aI aO rfl (by first | assumption | exact Own.rd ‹_› | exact Rd.lh ‹_› hB | exact Own.rd (Own.lh ‹_› hB))) rfl ?_)
 refine a4 (f9 rfl rfl) rfl ?_
 refine ogm rfl rfl (al 74 true rfl (fun c1 hgc1 => ?_))
 refine a5 [(12, _)] (aa rfl rfl rfl hgc1) ⟨au rfl, trivial⟩ (fun hw1 => av rfl) rfl ?_
 refine dl [(75, _)] (aa rfl rfl rfl hgc1) ⟨ae rfl, trivial⟩ (fun hw2 => a7 (vs := [_]) rfl (fZ _ _)) rfl ?_
 refine a5 [(14, _)] (aa rfl rfl rfl hgc1) ⟨au rfl, trivial⟩ (fun hw3 => av rfl) rfl ?_
 refine a5 [(76, _), (77, _)] (aa rfl rfl rfl hgc1) ⟨ae rfl, ae rfl, trivial⟩ (fun hw4 => bF rfl rfl) rfl ?_
 refine a4 (ax rfl rfl hgc1) rfl ?_
 refine ogm rfl rfl (al 80 true rfl (fun c2 hgc2 => ?_))
 refine a5 [(15, _)] (aa rfl rfl rfl hgc2) ⟨au rfl, trivial⟩ (fun hw5 => av rfl) rfl ?_
 refine a5 [(81, _)] (aa rfl rfl rfl hgc2) ⟨ae rfl, trivial⟩ (fun hw6 => dg aA aI aO rfl (by first | assumption | exact Own.rd ‹_› | exact Rd.lh ‹_› hB | exact Own.rd (Own.lh ‹_› hB))) rfl ?_
 refine a5 [(17, _)] (aa rfl rfl rfl hgc2) ⟨au rfl, trivial⟩ (fun hw7 => av rfl) rfl ?_
 refine a5 [(83, _)] (aa rfl rfl rfl hgc2) ⟨ae rfl, trivial⟩ (fun hw8 => dg aA aI aO rfl (by first | assumption | exact Own.rd ‹_› | exact Rd.lh ‹_› hB | exact Own.rd (Own.lh ‹_› hB))) rfl ?_
 refine a5 [(82, _), (84, _)] (aa rfl rfl rfl hgc2) ⟨ae rfl, ae rfl, trivial⟩ (fun hw9 => f9 rfl rfl) rfl ?_
 refine a4 (ax rfl rfl hgc2) rfl ?_
 refine ogm rfl rfl (al 87 true rfl (fun c3 hgc3 => ?_))
 refine a5 [(16, _)] (aa rfl rfl rfl hgc3) ⟨au rfl, trivial⟩ (fun hw10 => av rfl) rfl ?_
 refine dl [(88, _)] (aa rfl rfl rfl hgc3) ⟨ae rfl, trivial⟩ (fun hw11 => a7 (vs := [_]) rfl (fZ _ _)) rfl ?_
 refine a5 [(18, _)] (aa rfl rfl rfl hgc3) ⟨au rfl, trivial⟩ (fun hw12 => av rfl) rfl ?_
 refine a5 [(89, _), (90, _)] (aa rfl rfl rfl hgc3) ⟨ae rfl, ae rfl, trivial⟩ (fun hw13 => bF rfl rfl) rfl ?_
 refine a4 (ax rfl rfl hgc3) rfl ?_
 refine ogm rfl rfl (al 93 true rfl (fun c4 hgc4 => ?_))
 refine a5 [(19, _)] (aa rfl rfl rfl hgc4) ⟨au rfl, trivial⟩ (fun hw14 => an (cs' := [_, _, _, _, _, _, _, _, _, _]) cO bM rfl hb5 rfl rfl) rfl ?_
 refine a5 [(22, _)] (aa rfl rfl rfl hgc4) ⟨au rfl, trivial⟩ (fun hw15 => an (cs' := [_, _, _, _, _, _, _, _, _, _]) cd bc rfl hb7 rfl rfl) rfl ?_
 refine cQ [(94, _), (95, _)] (aa rfl rfl rfl hgc4) ⟨ae rfl, ae rfl, trivial⟩ (fun hw16 => a7 (vs := [_, _]) rfl (g6 _ _ _ _ _ (gpX c) _ (fg2.rd.lh hK2) (fm2.rd.lh hK2) (fb2.rd.lh hK2) (fsg2.rd.lh hK2) (fcf2.rd.lh hK2) _ _ _ _ _ (fg3.rd.lh hK3) (fm3.rd.lh hK3) (fb3.rd.lh hK3) (fsg3.rd.lh hK3) (fcf3.rd.lh hK3))) rfl ?_
 rintro w17 k17
 replace hb1 := hb1.lh k17
 replace o1 := o1.lh k17
 replace hb3 := hb3.lh k17
 replace o2 := o2.lh k17
 replace o3 := o3.lh k17
 replace o4 := o4.lh k17
 replace o5 := o5.lh k17
 replace otg1 := otg1.lh k17
 replace hb5 := hb5.lh k17
 replace otg2 := otg2.lh k17
 replace hb7 := hb7.lh k17
 replace hB := hB.trans k17
 replace hK1 := hK1.trans k17
 replace hK2 := hK2.trans k17
 replace hK3 := hK3.trans k17
 refine a4 (ax rfl rfl hgc4) rfl ?_
 refine ogm rfl rfl (al 98 true rfl (fun c5 hgc5 => ?_))
 refine a5 [(20, _)] (aa rfl rfl rfl hgc5) ⟨au rfl, trivial⟩ (fun hw17 => av rfl) rfl ?_
 refine a5 [(99, _)] (aa rfl rfl rfl hgc5) ⟨ae rfl, trivial⟩ (fun hw18 => dg aA aI aO rfl (by first | assumption | exact Own.rd ‹_› | exact Rd.lh ‹_› hB | exact Own.rd (Own.lh ‹_› hB))) rfl ?_
 refine a5 [(23, _)] (aa rfl rfl rfl hgc5) ⟨au rfl, trivial⟩ (fun hw19 => av rfl) rfl ?_
 refine a5 [(101, _)] (aa rfl rfl rfl hgc5) ⟨ae rfl, trivial⟩ (fun hw20 => dg aA aI aO rfl (by first | assumption | exact Own.rd ‹_› | exact Rd.lh ‹_› hB | exact Own.rd (Own.lh ‹_› hB))) rfl ?_
 refine a5 [(100, _), (102, _)] (aa rfl rfl rfl hgc5) ⟨ae rfl, ae rfl, trivial⟩ (fun hw21 => f9 rfl rfl) rfl ?_
 refine a4 (ax rfl rfl hgc5) rfl ?_
 refine ogm rfl rfl (al 105 true rfl (fun c6 hgc6 => ?_))
 refine a5 [(21, _)] (aa rfl rfl rfl hgc6) ⟨au rfl, trivial⟩ (fun hw22 => av rfl) rfl ?_
 refine dl [(106, _)] (aa rfl rfl rfl hgc6) ⟨ae rfl, trivial⟩ (fun hw23 => a7 (vs := [_]) rfl (fZ _ _)) rfl ?_
 refine a5 [(24, _)] (aa rfl rfl rfl hgc6) ⟨au rfl, trivial⟩ (fun hw24 => av rfl) rfl ?_
 refine a5 [(107, _), (108, _)] (aa rfl rfl rfl hgc6) ⟨ae rfl, ae rfl, trivial⟩ (fun hw25 => bF rfl rfl) rfl ?_
 refine a4 (ax rfl rfl hgc6) rfl ?_
 refine ogm rfl rfl (al 111 true rfl (fun c7 hgc7 => ?_))
 refine a5 [(10, _)] (aa rfl rfl rfl hgc7) ⟨au rfl, trivial⟩ (fun hw26 => an (cs' := [_, _, _, _, _, _, _, _, _, _]) cO bM rfl hb3 rfl rfl) rfl ?_
 refine a5 [(4, _)] (aa rfl rfl rfl hgc7) ⟨au rfl, trivial⟩ (fun hw27 => an (cs' := [_, _, _, _, _, _, _, _, _, _]) cd bc rfl hb1 rfl rfl) rfl ?_
 refine cQ [(112, _), (113, _)] (aa rfl rfl rfl hgc7) ⟨ae rfl, ae rfl, trivial⟩ (fun hw28 => a7 (vs := [_, _]) rfl (g6 _ _ _ _ _ x _ (fg1.rd.lh hK1) (fm1.rd.lh hK1) (fb1.rd.lh hK1) (fsg1.rd.lh hK1) (fcf1.rd.lh hK1) _ _ _ _ _ (hg.lh hB) (hm.lh hB) (hb.lh hB) (hs.lh hB) (hc.lh hB))) rfl ?_
 rintro w19 k19
 replace hb1 := hb1.lh k19
 replace o1 := o1.lh k19
 replace hb3 := hb3.lh k19
 replace o2 := o2.lh k19
 replace o3 := o3.lh k19
 replace o4 := o4.lh k19
 replace o5 := o5.lh k19
 replace otg1 := otg1.lh k19
 replace hb5 := hb5.lh k19
 replace otg2 := otg2.lh k19
 replace hb7 := hb7.lh k19
 replace hB := hB.trans k19
 replace hK1 := hK1.trans k19
 replace hK2 := hK2.trans k19
 replace hK3 := hK3.trans k19
 refine a4 (ax rfl rfl hgc7) rfl ?_
 refine ogm rfl rfl (al 116 true rfl (fun c8 hgc8 => ?_))
 refine a5 [(9, _)] (aa rfl rfl rfl hgc8) ⟨au rfl, trivial⟩ (fun hw29 => av rfl) rfl ?_
 refine a5 [(3, _)] (aa rfl rfl rfl hgc8) ⟨au rfl, trivial⟩ (fun hw30 => av rfl) rfl ?_
 refine cQ [(117, _), (118, _)] (aa rfl rfl rfl hgc8) ⟨ae rfl, ae rfl, trivial⟩ (fun hw31 => a7 (vs := [_, _]) rfl (kF _ _ c _ _ o1 (by first | assumption | exact Own.rd ‹_› | exact Rd.lh ‹_› hB | exact Own.rd (Own.lh ‹_› hB)) hc9)) rfl ?_
 rintro w21 k21
 replace otg1 := otg1.lh k21
 replace otg2 := otg2.lh k21
 replace hB := hB.trans k21
 replace hK1 := hK1.trans k21
 replace hK2 := hK2.trans k21
 replace hK3 := hK3.trans k21
 refine a4 (ax rfl rfl hgc8) rfl ?_
 refine ogm rfl rfl (al 121 true rfl (fun c9 hgc9 => ?_))
 refine cQ [] (aa rfl rfl rfl hgc9) trivial (fun hw32 => a7 (vs := []) rfl (kZ _)) rfl ?_
 rintro w23 k23
 replace otg1 := otg1.lh k23
 replace otg2 := otg2.lh k23
 replace hB := hB.trans k23
 replace hK1 := hK1.trans k23
 replace hK2 := hK2.trans k23
 replace hK3 := hK3.trans k23
 refine a4 (ax rfl rfl hgc9) rfl ?_
 refine oga rfl rfl (aZ (ab [(8, _)] ⟨rfl, trivial⟩ ?_))
 refine af hfin Tryd.results3 rfl ?_
 exact ⟨by simp, hB⟩
end Go.Proofs.YtjfmmoonpdifcaaDoor.W
namespace Go.Proofs.YtjfmmoonpdifcaaDoor.SignDone
open Go Go.Eng Go.Byt Go.Sha Go.ChangeShapes Go.WideShapes Go.ChangeAt Go.RowKit Go.Proofs.YtjfmmoonpdifcaaDoor.W
theorem kz {W : World} {nm : String} {g T E m fuel : Nat} {zs : List Int} {cs : Array Value} {p : List MemPlace} (hg : Tryd.prog.globalNamed nm = some g) (hT : Tryd.prog.underlying T = some (.array m E)) (hE : Tryd.prog.underlying E = some (.int .u64)) (hc : Tryd.prog.cellsOf E = 1) (hm : zs.length = m)
   (hv : W.var? Tryd.prog nm = some cs) (hd : DataW.trod (fun _ => ()) Tryd.prog W 0 (fun _ => true) false fuel T cs.toList = some (.agg (zs.map fun n => .lit (.int .u64 n)), p)) : Row W ⟨g, 0, none⟩ (zs.map fun n => .int .u64 n) := by
 intro r u hu
 obtain ⟨xs, m', _, ex, _, hl, hel⟩ := DataW.trod_array hT hd
 have hr : r < zs.length := by
   rcases Nat.lt_or_ge r zs.length with h | h
   · exact h
   · rw [List.getElem?_eq_none (by rw [List.length_map]; exact h)] at hu; cases hu
 have hE' := hel r (by omega)
 rw [hc, Nat.mul_one, List.getElem?_eq_getElem (by omega)] at hE'
 obtain ⟨z, e1, e2, _⟩ := DataW.trod_int hE hE'
 have e3 : (xs.map (·.1)) = zs.map fun n => .lit (.int .u64 n) := (DataW.agg.inj (Prod.mk.inj ex).1).symm
 have e4 : (xs.map (·.1))[r]? = (zs.map fun n => (DataW.lit (.int .u64 n) : DataW Unit))[r]? := by rw [e3]
 rw [List.getElem?_map, List.getElem?_map, List.getElem?_eq_getElem (by omega : r < xs.length), List.getElem?_eq_getElem hr, e2] at e4
 have hz : z = zs[r] := by
   simp only [Option.map_some, Option.some.injEq, DataW.lit.injEq, Lit.int.injEq, true_and] at e4
   exact e4
 rw [List.getElem?_map, List.getElem?_eq_getElem hr] at hu
 simp only [Option.map_some, Option.some.injEq] at hu
 have e5 : cs.toList[r]? = some (.int .u64 z) := by
   have h0 : ((cs.toList.drop r).take 1)[0]? = some (.int .u64 z) := by rw [e1]; rfl
   simpa using h0
 have e6 : (⟨g, 0, none⟩ : Addr).add r = ⟨g, r, none⟩ := by rw [Addr.add_lit, Nat.zero_add]
 rw [e6, World.var?_cell hg hv r, ← hu, ← hz]
 simpa using e5
theorem sq_data : (Rows.laid_synod_sha_squares : DataW Unit) = .agg (((KB Hl).map fun x => (x.toNat : Int)).map fun n => .lit (.int .u64 n)) := by kernel_rfl
theorem cu_data : (Rows.laid_synod_sha_cubes : DataW Unit) = .agg (((KB Kl).map fun x => (x.toNat : Int)).map fun n => .lit (.int .u64 n)) := by kernel_rfl
theorem kw : iv .u64 8 (wN (KB Hl)) = ((KB Hl).map fun x => (x.toNat : Int)).map fun n => .int .u64 n := by kernel_rfl
theorem lZ : iv .u64 80 (wN (KB Kl)) = ((KB Kl).map fun x => (x.toNat : Int)).map fun n => .int .u64 n := by kernel_rfl
theorem tabs_of {W : World} (h : laidMetH Tryd.prog [("synod/sha.cubes", Rows.laid_synod_sha_cubes), ("synod/sha.squares", Rows.laid_synod_sha_squares)] W) : Tabs W := by
 rw [MakeChecks.laidMetH_plain _ _ _ (by kernel_rfl)] at h
 obtain ⟨ps, ⟨g, t, cs, fuel, p, q, hg, ht, hv, hd, ⟨g', t', cs', fuel', p', q', hg', ht', hv', hd', _, _⟩, _⟩, _, _⟩ := h
 obtain rfl := Option.some.inj ((show Tryd.prog.globalNamed "synod/sha.cubes" = some 1 by kernel_rfl).symm.trans hg)
 obtain rfl := Option.some.inj ((show (Tryd.prog.globals[1]?).map (·.type) = some 116 by kernel_rfl).symm.trans ht)
 obtain rfl := Option.some.inj ((show Tryd.prog.globalNamed "synod/sha.squares" = some 0 by kernel_rfl).symm.trans hg')
 obtain rfl := Option.some.inj ((show (Tryd.prog.globals[0]?).map (·.type) = some 112 by kernel_rfl).symm.trans ht')
 rw [cu_data] at hd
 rw [sq_data] at hd'
 have c5 : Tryd.prog.cellsOf 100 = 1 := by kernel_rfl
 refine ⟨?_, ?_⟩
 · rw [kw]; exact kz hg' aV aR c5 (by decide +kernel) hv' hd'
 · rw [lZ]; exact kz hg Tryd.underlying116 aR c5 (by decide +kernel) hv hd
theorem own : ownKnob Tryd.prog.godebug = none := by kernel_rfl
theorem laidOut : laidOutB Tryd.prog = true := by kernel_rfl
end Go.Proofs.YtjfmmoonpdifcaaDoor.SignDone
