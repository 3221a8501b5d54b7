/- The walking engine, part 5: guarded operations; regions that draw their order. Nothing here names a program. -/
import Derived.Test.YtkngeapegpehpaaEngD
namespace Go.Eng
open Go Go.IntWalk

/-! ### Guards: a value that is there only if c -/
def gv (c : Bool) (v : Value) : Value := bif c then v else undef
theorem gv_true {c : Bool} {v : Value} (h : c = true) : gv c v = v := by subst h; rfl
theorem gv_false {c : Bool} {v : Value} (h : c = false) : gv c v = undef := by subst h; rfl
def Und (c : Bool) (f : Fr) (t : Nat) (v : Value) : Prop := ∃ u, f.get t = some u ∧ (c = true → u = v)
def UndF (c : Bool) : Fr → Fr → Prop
  | [], _ => True
  | (t, v) :: g, f => Und c f t v ∧ UndF c g f
theorem und0 {c : Bool} {f : Fr} {t : Nat} {v : Value} (h : f.get t = some v) : Und c f t v := ⟨v, h, fun _ => rfl⟩
theorem und1 {c : Bool} {f : Fr} {t : Nat} {v : Value} (h : f.get t = some (gv c v)) : Und c f t v := ⟨_, h, fun hc => gv_true hc⟩
theorem und2 {c c' : Bool} {f : Fr} {t : Nat} {v : Value} (h : f.get t = some (gv c' v)) (hc : c = true → c' = true) : Und c f t v := ⟨_, h, fun h => gv_true (hc h)⟩
theorem Kn.undF {n : Nat} {f : Fr} {a : Act} {c : Bool} (h : Kn n f a) (hc : c = true) : ∀ {g : Fr}, UndF c g f → Kn n g a
  | [], _ => ⟨h.size, h.defers, fun t v ht => by cases ht⟩
  | (k, u) :: g, hs => by
    obtain ⟨⟨u', h1, h1'⟩, h2⟩ := hs
    have h1'' := h1' hc
    subst h1''
    have ih := Kn.undF h hc h2
    refine ⟨h.size, h.defers, fun t v ht => ?_⟩
    simp only [Fr.get] at ht
    by_cases e : Nat.beq k t = true
    · rw [e] at ht
      simp only [cond_true, Option.some.injEq] at ht
      have e' : k = t := Nat.eq_of_beq_eq_true e
      subst e' ht
      exact h.get _ _ h1
    · have e' : Nat.beq k t = false := eq_false_of_ne_true e
      rw [e'] at ht
      exact ih.get t v ht

section
variable {P : Program} {n : Nat} {f : Fr} {w : World} {ty : TypeId} {fin : Exit → Act → World → Prop} {k : List KI} {ops : Array Oper} {l : List Oper}
/-- Operation j has yielded 'want' just if c. -/
def Grd (n : Nat) (ops : Array Oper) (f : Fr) (j : Nat) (want c : Bool) : Prop := ∀ a, Kn n f a → (yielded ops a.tmps j == some want) = c
theorem yielded_of {a : Act} {j d : Nat} {oj : Oper} {v : Value} (ha : Kn n f a) (hj : ops[j]? = some oj) (hd : oj.dst = some d) (hf : f.get d = some v) :
    yielded ops a.tmps j = match v with | .bool b => some b | _ => none := by
  have hv := ha.get d _ hf
  simp only [yielded, hj, hd, Option.bind_some]
  rcases Nat.lt_or_ge d a.tmps.size with h | h
  · rw [Array.getD_eq_getD_getElem?, Array.getElem?_eq_getElem h, Option.getD_some] at hv
    rw [Array.getElem?_eq_getElem h, hv]
    cases v <;> rfl
  · rw [Array.getD_eq_getD_getElem?, Array.getElem?_eq_none h] at hv
    rw [Array.getElem?_eq_none h]
    subst hv; rfl
theorem grd1 {j d : Nat} {oj : Oper} {b want c : Bool} (hj : ops[j]? = some oj) (hd : oj.dst = some d) (hf : f.get d = some (.bool b)) (hc : c = (b == want)) : Grd n ops f j want c := by
  intro a ha
  rw [yielded_of ha hj hd hf, hc]
  cases b <;> cases want <;> rfl
theorem grd2 {j d : Nat} {oj : Oper} {b want c c' : Bool} (hj : ops[j]? = some oj) (hd : oj.dst = some d) (hf : f.get d = some (gv c' (.bool b))) (hc : c = (c' && (b == want))) : Grd n ops f j want c := by
  intro a ha
  rw [yielded_of ha hj hd hf, hc]
  cases c' <;> cases b <;> cases want <;> rfl
theorem ow_grp (d : Nat) (want : Bool) {b : Bool} (_hf : f.get d = some (.bool b)) (h : ∀ c, c = (b == want) → OW P fin n k ops l f w) : OW P fin n k ops l f w := h _ rfl
theorem ow_grp2 (d : Nat) (want : Bool) {b c' : Bool} (_hf : f.get d = some (gv c' (.bool b))) (h : ∀ c, c = (c' && (b == want)) → OW P fin n k ops l f w) : OW P fin n k ops l f w := h _ rfl
theorem ow_gg (f1 : Fr) {op : Op} {d : Nat} {pos : String} {aft : Array Edge} {j : Nat} {want c : Bool} {v : Value} (hG : Grd n ops f j want c) (hs : UndF c f1 f) (hr : c = true → Gives P n f1 w op ty v w) (hd : Nat.blt d n = true)
    (h : OW P fin n k ops l ((d, gv c v) :: f) w) : OW P fin n k ops (⟨some d, op, ty, pos, aft, some (j, want)⟩ :: l) f w := by
  intro a ha
  have hg := hG a ha
  refine wpList_step fun K hK => ?_
  have hwt : Region.wanted ⟨some d, op, ty, pos, aft, some (j, want)⟩ (yielded ops a.tmps) = c := hg
  rw [hwt]
  cases hc : c with
  | true =>
    rw [if_pos rfl]
    unfold Oper.wp
    rw [hr hc a (ha.undF hc hs)]
    have := h _ (ha.put (blt_lt hd) (gv c v))
    rw [gv_true hc] at this
    exact hK _ _ this
  | false =>
    rw [if_neg (by simp)]
    have := h _ (ha.put (blt_lt hd) (gv c v))
    rw [gv_false hc] at this
    exact hK _ _ this
theorem ow_gy {op : Op} {d : Nat} {pos : String} {aft : Array Edge} {j : Nat} {want : Bool} {v : Value} (hG : Grd n ops f j want true) (hr : Gives P n f w op ty v w) (hd : Nat.blt d n = true)
    (h : OW P fin n k ops l ((d, v) :: f) w) : OW P fin n k ops (⟨some d, op, ty, pos, aft, some (j, want)⟩ :: l) f w := by
  intro a ha
  refine wpList_step fun K hK => ?_
  have hwt : Region.wanted ⟨some d, op, ty, pos, aft, some (j, want)⟩ (yielded ops a.tmps) = true := hG a ha
  rw [hwt, if_pos rfl]
  unfold Oper.wp
  rw [hr a ha]
  exact hK _ _ (h _ (ha.put (blt_lt hd) v))
theorem ow_gd (f1 : Fr) {op : Op} {d : Nat} {pos : String} {aft : Array Edge} {j : Nat} {want c : Bool} {R : Value → World → Prop} (hG : Grd n ops f j want c) (hs : UndF c f1 f) (hr : c = true → Does P n f1 w op ty R) (hd : Nat.blt d n = true)
    (h : ∀ v w', (c = true → R v w') → (c = false → w' = w) → OW P fin n k ops l ((d, gv c v) :: f) w') : OW P fin n k ops (⟨some d, op, ty, pos, aft, some (j, want)⟩ :: l) f w := by
  intro a ha
  have hg := hG a ha
  refine wpList_step fun K hK => ?_
  have hwt : Region.wanted ⟨some d, op, ty, pos, aft, some (j, want)⟩ (yielded ops a.tmps) = c := hg
  rw [hwt]
  cases hc : c with
  | true =>
    rw [if_pos rfl]
    refine hr hc a (ha.undF hc hs) _ _ _ _ _ _ (fun v w' hv => hK _ _ ?_)
    have := h v w' (fun _ => hv) (fun h => by rw [hc] at h; cases h) _ (ha.put (blt_lt hd) (gv c v))
    rwa [gv_true hc] at this
  | false =>
    rw [if_neg (by simp)]
    have := h undef w (fun h => by rw [hc] at h; cases h) (fun _ => rfl) _ (ha.put (blt_lt hd) (gv c undef))
    rw [gv_false hc] at this
    exact hK _ _ this
theorem g_pand {x y : Operand} {b b2 c : Bool} (hx : f.ev x = some (.bool b)) (hy : f.ev y = some (gv c (.bool b2))) (hc : c = (b == true)) : Gives P n f w (.pick x y (.const (.bool false))) ty (.bool (b && b2)) w := by
  intro a ha dst pos aft g
  have h1 := ha.ev hx
  have h2 := ha.ev hy
  have h3 : a.eval (.const (.bool false)) = .bool false := rfl
  subst hc
  cases b <;> simp [execOp, h1, h2, h3, asBool, gv]
theorem g_por {x y : Operand} {b b2 c : Bool} (hx : f.ev x = some (.bool b)) (hy : f.ev y = some (gv c (.bool b2))) (hc : c = (b == false)) : Gives P n f w (.pick x (.const (.bool true)) y) ty (.bool (b || b2)) w := by
  intro a ha dst pos aft g
  have h1 := ha.ev hx
  have h2 := ha.ev hy
  have h3 : a.eval (.const (.bool true)) = .bool true := rfl
  subst hc
  cases b <;> simp [execOp, h1, h2, h3, asBool, gv]
/-- A pick that is guarded itself. -/
theorem ow_pand {x y : Tmp} {d : Nat} {pos : String} {aft : Array Edge} {j : Nat} {want c c2 b b2 : Bool} (hG : Grd n ops f j want c) (hx : Und c f x (.bool b)) (hy : f.get y = some (gv c2 (.bool b2))) (hc2 : c2 = (c && (b == true)))
    (hd : Nat.blt d n = true) (h : OW P fin n k ops l ((d, gv c (.bool (b && b2))) :: f) w) : OW P fin n k ops (⟨some d, .pick (.tmp x) (.tmp y) (.const (.bool false)), ty, pos, aft, some (j, want)⟩ :: l) f w := by
  cases c with
  | false => exact ow_gg (c := false) (v := .bool (b && b2)) [] hG trivial (fun h => by cases h) hd h
  | true =>
    have hc2' : c2 = (b == true) := by rw [hc2, Bool.true_and]
    obtain ⟨u, hu, hu'⟩ := hx
    have hu2 := hu' rfl
    subst hu2
    exact ow_gy hG (g_pand (x := .tmp x) (y := .tmp y) hu hy hc2') hd h
theorem ow_por {x y : Tmp} {d : Nat} {pos : String} {aft : Array Edge} {j : Nat} {want c c2 b b2 : Bool} (hG : Grd n ops f j want c) (hx : Und c f x (.bool b)) (hy : f.get y = some (gv c2 (.bool b2))) (hc2 : c2 = (c && (b == false)))
    (hd : Nat.blt d n = true) (h : OW P fin n k ops l ((d, gv c (.bool (b || b2))) :: f) w) : OW P fin n k ops (⟨some d, .pick (.tmp x) (.const (.bool true)) (.tmp y), ty, pos, aft, some (j, want)⟩ :: l) f w := by
  cases c with
  | false => exact ow_gg (c := false) (v := .bool (b || b2)) [] hG trivial (fun h => by cases h) hd h
  | true =>
    have hc2' : c2 = (b == false) := by rw [hc2, Bool.true_and]
    obtain ⟨u, hu, hu'⟩ := hx
    have hu2 := hu' rfl
    subst hu2
    exact ow_gy hG (g_por (x := .tmp x) (y := .tmp y) hu hy hc2') hd h
end

/-! ### Regions that draw their order -/
def dstOf (l : List Oper) (i : Nat) : Nat := ((l[i]?).bind (·.dst)).getD 0
def hasDst (l : List Oper) (i : Nat) : Bool := ((l[i]?).bind (·.dst)).isSome
/-- No two operations write one slot, each writes one below n, each waits only for earlier ones. -/
def drawOk (n : Nat) (l : List Oper) : Bool :=
  (List.range l.length).all fun i => match l[i]? with
    | none => false
    | some o => Nat.blt (dstOf l i) n && o.after.toList.all (fun e => !Region.binds .any e || Nat.blt e.on i) && (!o.dst.isSome || (List.range l.length).all fun j => i == j || dstOf l i != dstOf l j || !hasDst l j)
def depOk (l : List Oper) (i : Nat) (deps : List Nat) : Bool := deps.all fun j => match l[i]? with
    | none => false
    | some o => hasDst l j && o.after.toList.any fun e => e.on == j && Region.binds .any e
def freeOk (l : List Oper) (f0 : Fr) : Bool := f0.all fun p => (List.range l.length).all fun j => dstOf l j != p.1 || !hasDst l j
def depFr (l : List Oper) (vs : Nat → Value) : List Nat → Fr
  | [] => []
  | j :: r => (dstOf l j, vs j) :: depFr l vs r

section
variable {P : Program} {n : Nat}
def updL (L : Nat → Bool) (i : Nat) : Nat → Bool := fun j => bif Nat.beq j i then true else L j
/-- What is asked of operation i: Rl: how worlds go on; J: what holds of the world when the operations of L have been carried out; S j: what holds of operation j's value from then on. -/
def ObJ (P : Program) (n : Nat) (l : List Oper) (f0 : Fr) (Rl : World → World → Prop) (J : (Nat → Bool) → World → Prop) (S : Nat → Value → World → Prop) (w0 : World) (i : Nat) (o : Oper) : Prop :=
  ∃ deps : List Nat, depOk l i deps = true ∧ ∀ L w, L i = false → (∀ j, j ∈ deps → L j = true) → Rl w0 w → J L w → ∀ vs : Nat → Value, (∀ j, j ∈ deps → S j (vs j) w) →
    ∃ c : Bool, (∀ a, Kn n (depFr l vs deps ++ f0) a → Region.wanted o (yielded l.toArray a.tmps) = c) ∧
      (c = true → Does P n (depFr l vs deps ++ f0) w o.op o.type (fun v w' => Rl w w' ∧ S i v w' ∧ J (updL L i) w')) ∧ (c = false → S i undef w ∧ J (updL L i) w)
def ObsJ (P : Program) (n : Nat) (l : List Oper) (f0 : Fr) (Rl : World → World → Prop) (J : (Nat → Bool) → World → Prop) (S : Nat → Value → World → Prop) (w0 : World) : Nat → List Oper → Prop
  | _, [] => True
  | i, o :: r => ObJ P n l f0 Rl J S w0 i o ∧ ObsJ P n l f0 Rl J S w0 (i + 1) r
theorem ObsJ.get {l : List Oper} {f0 : Fr} {Rl : World → World → Prop} {J : (Nat → Bool) → World → Prop} {S : Nat → Value → World → Prop} {w0 : World} : ∀ {r : List Oper} {i : Nat}, ObsJ P n l f0 Rl J S w0 i r → ∀ (k : Nat) (o : Oper), r[k]? = some o → ObJ P n l f0 Rl J S w0 (i + k) o
  | [], _, _, k, o, h => by simp at h
  | x :: r, i, ⟨h1, h2⟩, 0, o, h => by simp at h; subst h; exact h1
  | x :: r, i, ⟨h1, h2⟩, k + 1, o, h => by
    have := ObsJ.get h2 k o (by simpa using h)
    rwa [Nat.add_assoc, Nat.add_comm 1 k] at this
theorem Kn.app {f g : Fr} {a : Act} (h1 : ∀ p, p ∈ g → a.tmps.getD p.1 undef = p.2) (h2 : Kn n f a) : Kn n (g ++ f) a := by
  induction g with
  | nil => exact h2
  | cons p r ih =>
    obtain ⟨k, u⟩ := p
    have ih' := ih (fun p hp => h1 p (List.mem_cons_of_mem _ hp))
    refine ⟨h2.size, h2.defers, fun t v ht => ?_⟩
    simp only [List.cons_append, Fr.get] at ht
    by_cases e : Nat.beq k t = true
    · rw [e] at ht
      simp only [cond_true, Option.some.injEq] at ht
      have e' : k = t := Nat.eq_of_beq_eq_true e
      subst e' ht
      exact h1 (k, u) (List.mem_cons_self ..)
    · have e' : Nat.beq k t = false := eq_false_of_ne_true e
      rw [e'] at ht
      exact ih'.get t v ht
theorem Kn.putOther {f : Fr} {a : Act} {d : Nat} (h : Kn n f a) (hd : f.get d = none) (v : Value) : Kn n f (a.put (some d) v) := by
  refine ⟨by simp [Act.put, h.size], by simp [Act.put, h.defers], fun t u ht => ?_⟩
  have hne : d ≠ t := fun e => by subst e; rw [hd] at ht; cases ht
  rw [← h.get t u ht]
  simp only [Act.put, Array.getD_eq_getD_getElem?]
  rw [Array.getElem?_setIfInBounds_ne hne]
theorem get_none_of_free {l : List Oper} {i : Nat} (hi : i < l.length) (hd : hasDst l i = true) : ∀ {f0 : Fr}, freeOk l f0 = true → f0.get (dstOf l i) = none
  | [], _ => rfl
  | (k, u) :: r, h => by
    simp only [freeOk, List.all_cons, Bool.and_eq_true] at h
    obtain ⟨h1, h2⟩ := h
    have h1' := List.all_eq_true.1 h1 i (List.mem_range.2 hi)
    have hne : dstOf l i ≠ k := by simpa [hd] using h1'
    have e : Nat.beq k (dstOf l i) = false := by
      cases hb : Nat.beq k (dstOf l i) with
      | false => rfl
      | true => exact absurd (Nat.eq_of_beq_eq_true hb).symm hne
    simp only [Fr.get, e, cond_false]
    exact get_none_of_free hi hd h2
theorem mem_depFr {l : List Oper} {vs : Nat → Value} {p : Nat × Value} : ∀ {deps : List Nat}, p ∈ depFr l vs deps → ∃ j, j ∈ deps ∧ p = (dstOf l j, vs j)
  | [], h => by cases h
  | j :: r, h => by
    simp only [depFr, List.mem_cons] at h
    rcases h with h | h
    · exact ⟨j, by simp, h⟩
    · obtain ⟨i, hi, hp⟩ := mem_depFr h
      exact ⟨i, by simp [hi], hp⟩

def left (n : Nat) (listed : Array Bool) : Nat := (List.range n).countP fun i => !listed.getD i true
theorem left_set {m i : Nat} {listed : Array Bool} (hi : i < m) (hs : listed.size = m) (h : listed.getD i true = false) : left m (listed.setIfInBounds i true) + 1 = left m listed := by
  unfold left
  have key : ∀ (r : List Nat), r.Nodup → i ∈ r → (∀ j, j ∈ r → j < m) → r.countP (fun j => !(listed.setIfInBounds i true).getD j true) + 1 = r.countP (fun j => !listed.getD j true) := by
    intro r hr hmem hlt
    induction r with
    | nil => cases hmem
    | cons x r ih =>
      have hnd := List.nodup_cons.1 hr
      by_cases hx : x = i
      · subst hx
        have e1 : (listed.setIfInBounds x true).getD x true = true := by simp [Array.getD_eq_getD_getElem?, hs, hi]
        have e2 : r.countP (fun j => !(listed.setIfInBounds x true).getD j true) = r.countP (fun j => !listed.getD j true) := by
          refine List.countP_congr fun j hj => ?_
          have hne : x ≠ j := fun e => hnd.1 (e ▸ hj)
          rw [getD_set_ne true hne]
        simp only [List.countP_cons, e1, e2, h]
        simp
      · have hm : i ∈ r := by
          rcases List.mem_cons.1 hmem with h' | h'
          · exact absurd h'.symm hx
          · exact h'
        have ih' := ih hnd.2 hm (fun j hj => hlt j (List.mem_cons_of_mem _ hj))
        simp only [List.countP_cons]
        rw [getD_set_ne true (Ne.symm hx)]
        omega
  exact key _ List.nodup_range (List.mem_range.2 hi) (fun j hj => List.mem_range.1 hj)
theorem all_listed {m : Nat} {l : List Oper} {listed : Array Bool} (hok : drawOk n l = true) (hm : m = l.length) (hs : listed.size = m) (hr : Region.ready .any l.toArray listed = []) : ∀ i, i < m → listed.getD i false = true := by
  intro i
  induction i using Nat.strongRecOn with
  | _ i ih =>
    intro hi
    cases hc : listed.getD i false with
    | true => rfl
    | false =>
      exfalso
      have hget : l[i]? = some l[i] := List.getElem?_eq_getElem (by omega)
      have h1 := List.all_eq_true.1 hok i (List.mem_range.2 (by omega))
      simp only [hget, Bool.and_eq_true] at h1
      have hin : i ∈ Region.ready .any l.toArray listed := by
        refine mem_ready.2 ⟨?_, l[i], by simp [hget], fun e he hb => ?_⟩
        · rw [Array.getD_eq_getD_getElem?] at hc ⊢
          rw [Array.getElem?_eq_getElem (by omega)] at hc ⊢
          simpa using hc
        · have h2 := List.all_eq_true.1 h1.1.2 e (Array.mem_toList_iff.2 he)
          rw [hb] at h2
          have h3 : e.on < i := blt_lt (by simpa using h2)
          exact ih e.on h3 (by omega)
      rw [hr] at hin
      cases hin

variable {fin : Exit → Act → World → Prop} {k : List KI} {f : Fr} {w : World}
theorem tw_drawnJ {id : Nat} {l : List Oper} (hm : P.follows .mixedOrders = true) (f0 : Fr) (Rl : World → World → Prop) (J : (Nat → Bool) → World → Prop) (S : Nat → Value → World → Prop) (hf : Fr.sub f0 f) (hok : drawOk n l = true) (hfree : freeOk l f0 = true)
    (hrl : ∀ a, Rl a a) (hrr : ∀ a b c, Rl a b → Rl b c → Rl a c) (hr0 : Rl w w.drew) (hJ0 : J (fun _ => false) w.drew)
    (hst : ∀ i v w w', S i v w → Rl w w' → S i v w')
    (hob : ObsJ P n l f0 Rl J S w 0 l)
    (h : ∀ w', Rl w w' → ∀ L, (∀ i, i < l.length → L i = true) → J L w' → ∀ vs : Nat → Value, (∀ i, i < l.length → hasDst l i = true → S i (vs i) w') → TW P fin n k (depFr l vs ((List.range l.length).filter (hasDst l)) ++ f0) w') :
    TW P fin n (.c (.region id l.toArray true) :: k) f w := by
  intro a ha
  simp only [KQ]
  have ha0 := ha.sub hf
  refine wp_region_any hm ?_
  have hend : ∀ (listed : Array Bool) (L : Nat → Bool) (a : Act) (w' : World), listed.size = l.length → (∀ i, L i = listed.getD i false) → Kn n f0 a → Rl w w' → J L w' → (∀ i, listed.getD i false = true → i < l.length ∧ (hasDst l i = true → S i (a.tmps.getD (dstOf l i) undef) w')) → Region.ready .any l.toArray listed = [] → KQ P fin k .normal a w' := by
    intro listed L a w' hs hL hk hw hJ hS hr
    have hall := all_listed hok rfl hs hr
    refine h w' hw L (fun i hi => by rw [hL]; exact hall i hi) hJ (fun i => a.tmps.getD (dstOf l i) undef) (fun i hi => (hS i (hall i hi)).2) a (Kn.app ?_ hk)
    intro p hp
    obtain ⟨j, _, rfl⟩ := mem_depFr hp
    rfl
  have key : ∀ (fuel : Nat) (listed : Array Bool) (L : Nat → Bool) (a : Act) (w' : World), listed.size = l.length → (∀ i, L i = listed.getD i false) → left l.length listed ≤ fuel → Kn n f0 a → Rl w w' → J L w' →
      (∀ i, listed.getD i false = true → i < l.length ∧ (hasDst l i = true → S i (a.tmps.getD (dstOf l i) undef) w')) → wpAny P .any l.toArray (KQ P fin k) fuel listed a w' := by
    intro fuel
    induction fuel with
    | zero =>
      intro listed L a w' hs hL hle hk hw hJ hS
      have hr : Region.ready .any l.toArray listed = [] := by
        cases hr : Region.ready .any l.toArray listed with
        | nil => rfl
        | cons i r =>
          exfalso
          have hi : i ∈ Region.ready .any l.toArray listed := by rw [hr]; simp
          obtain ⟨h0, o, ho, _⟩ := mem_ready.1 hi
          have hlt : i < l.length := by
            have := (Array.getElem?_eq_some_iff.1 ho).1; simpa using this
          have := left_set hlt hs h0
          omega
      exact ⟨hr, hend listed L a w' hs hL hk hw hJ hS hr⟩
    | succ fuel ih =>
      intro listed L a w' hs hL hle hk hw hJ hS
      refine ⟨fun hr => hend listed L a w' hs hL hk hw hJ hS hr, fun i hi => ?_⟩
      obtain ⟨h0, o, ho, hedge⟩ := mem_ready.1 hi
      have ho' : l[i]? = some o := by simpa using ho
      have hlt : i < l.length := (List.getElem?_eq_some_iff.1 ho').1
      have hobi := ObsJ.get hob i o ho'
      rw [Nat.zero_add] at hobi
      obtain ⟨deps, hdep, hobl⟩ := hobi
      have h1 := List.all_eq_true.1 hok i (List.mem_range.2 hlt)
      simp only [ho', Bool.and_eq_true] at h1
      obtain ⟨⟨hd2, _⟩, hd4⟩ := h1
      have hLi : L i = false := by
        rw [hL, Array.getD_eq_getD_getElem?, Array.getElem?_eq_getElem (by omega)]
        rw [Array.getD_eq_getD_getElem?, Array.getElem?_eq_getElem (by omega)] at h0
        simpa using h0
      have hdl : ∀ j, j ∈ deps → listed.getD j false = true := by
        intro j hj
        have h2 := List.all_eq_true.1 hdep j hj
        simp only [ho', Bool.and_eq_true] at h2
        obtain ⟨e, he, h3⟩ := List.any_eq_true.1 h2.2
        simp only [Bool.and_eq_true, beq_iff_eq] at h3
        have := hedge e (Array.mem_toList_iff.1 he) h3.2
        rwa [h3.1] at this
      have hdeps : ∀ j, j ∈ deps → S j (a.tmps.getD (dstOf l j) undef) w' := by
        intro j hj
        have h2 := List.all_eq_true.1 hdep j hj
        simp only [ho', Bool.and_eq_true] at h2
        exact (hS j (hdl j hj)).2 h2.1
      obtain ⟨c, hc1, hc2, hc3⟩ := hobl L w' hLi (fun j hj => by rw [hL]; exact hdl j hj) hw hJ (fun j => a.tmps.getD (dstOf l j) undef) hdeps
      have hkd : Kn n (depFr l (fun j => a.tmps.getD (dstOf l j) undef) deps ++ f0) a := Kn.app (fun p hp => by
        obtain ⟨j, _, rfl⟩ := mem_depFr hp; rfl) hk
      have hL' : ∀ j, updL L i j = (listed.setIfInBounds i true).getD j false := by
        intro j
        unfold updL
        by_cases hij : j = i
        · subst hij
          have : Nat.beq j j = true := Nat.beq_refl j
          rw [this, Array.getD_eq_getD_getElem?]
          simp [hs, hlt]
        · have : Nat.beq j i = false := by
            cases hb : Nat.beq j i with
            | false => rfl
            | true => exact absurd (Nat.eq_of_beq_eq_true hb) hij
          rw [this, getD_set_ne false (Ne.symm hij), cond_false, hL]
      have hleft := left_set hlt hs h0
      have hnext : ∀ v w2, Rl w' w2 → S i v w2 → J (updL L i) w2 → wpAny P .any l.toArray (KQ P fin k) fuel (listed.setIfInBounds i true) (a.put o.dst v) w2 := by
        intro v w2 hk2 hSv hJ2
        cases hod : o.dst with
        | none =>
          refine ih _ (updL L i) _ _ (by simpa using hs) hL' (by omega) hk (hrr _ _ _ hw hk2) hJ2 ?_
          intro j hj
          by_cases hij : i = j
          · subst hij
            exact ⟨hlt, fun hd => by simp [hasDst, ho', hod] at hd⟩
          · rw [getD_set_ne false hij] at hj
            obtain ⟨hjl, hSj⟩ := hS j hj
            exact ⟨hjl, fun hd => hst _ _ _ _ (hSj hd) hk2⟩
        | some d =>
          have hdd : dstOf l i = d := by simp [dstOf, ho', hod]
          have hhd : hasDst l i = true := by simp [hasDst, ho', hod]
          rw [hdd] at hd2
          have hdn : d < n := blt_lt hd2
          refine ih _ (updL L i) _ _ (by simpa using hs) hL' (by omega) (hk.putOther (by rw [← hdd]; exact get_none_of_free hlt hhd hfree) v) (hrr _ _ _ hw hk2) hJ2 ?_
          intro j hj
          by_cases hij : i = j
          · subst hij
            refine ⟨hlt, fun _ => ?_⟩
            rw [hdd]
            have : (a.put (some d) v).tmps.getD d undef = v := by simp [Act.put, Array.getD_eq_getD_getElem?, hk.size, hdn]
            rw [this]; exact hSv
          · rw [getD_set_ne false hij] at hj
            obtain ⟨hjl, hSj⟩ := hS j hj
            refine ⟨hjl, fun hdj => ?_⟩
            have hne : d ≠ dstOf l j := by
              rw [hod] at hd4
              have h6 : ∀ x, x < l.length → (i = x ∨ ¬ dstOf l i = dstOf l x) ∨ hasDst l x = false := by simpa using hd4
              rcases h6 j hjl with (h7 | h7) | h7
              · exact absurd h7 hij
              · rwa [hdd] at h7
              · rw [hdj] at h7; cases h7
            have : (a.put (some d) v).tmps.getD (dstOf l j) undef = a.tmps.getD (dstOf l j) undef := by
              simp only [Act.put, Array.getD_eq_getD_getElem?]; rw [Array.getElem?_setIfInBounds_ne hne]
            rw [this]; exact hst _ _ _ _ (hSj hdj) hk2
      unfold wpOp
      rw [ho]
      simp only
      rw [hc1 a hkd]
      cases c with
      | true =>
        rw [if_pos rfl]
        refine .inl ?_
        exact hc2 rfl a hkd o.dst o.pos o.after o.guard _ _ (fun v w2 hv => hnext v w2 hv.1 hv.2.1 hv.2.2)
      | false =>
        rw [if_neg (by simp)]
        have hrf : Rl w' w' → wpAny P .any l.toArray (KQ P fin k) fuel (listed.setIfInBounds i true) (a.put o.dst undef) w' := fun hr => hnext undef w' hr (hc3 rfl).1 (hc3 rfl).2
        exact hrf (hrl _)
  refine key _ _ (fun _ => false) a _ (by simp) ?_ ?_ ha0 hr0 hJ0 ?_
  · intro i
    rw [Array.getD_eq_getD_getElem?]
    rcases Nat.lt_or_ge i l.toArray.size with h' | h'
    · rw [Array.getElem?_eq_getElem (by simpa using h')]; simp
    · rw [Array.getElem?_eq_none (by simpa using h')]; rfl
  · unfold left
    have := List.countP_le_length (p := fun i => !(Array.replicate l.toArray.size false).getD i true) (l := List.range l.length)
    simpa using this
  · intro i hi
    exfalso
    rw [Array.getD_eq_getD_getElem?] at hi
    rcases Nat.lt_or_ge i l.toArray.size with h' | h'
    · rw [Array.getElem?_eq_getElem (by simpa using h')] at hi; simp at hi
    · rw [Array.getElem?_eq_none (by simpa using h')] at hi; simp at hi

/-- The same where worlds only grow. -/
def ObP (P : Program) (n : Nat) (l : List Oper) (f0 : Fr) (S : Nat → Value → World → Prop) (w0 : World) (i : Nat) (o : Oper) : Prop :=
  ∃ deps : List Nat, depOk l i deps = true ∧ ∀ w, Keep [] w0 w → ∀ vs : Nat → Value, (∀ j, j ∈ deps → S j (vs j) w) →
    ∃ c : Bool, (∀ a, Kn n (depFr l vs deps ++ f0) a → Region.wanted o (yielded l.toArray a.tmps) = c) ∧
      (c = true → Does P n (depFr l vs deps ++ f0) w o.op o.type (fun v w' => Keep [] w w' ∧ S i v w')) ∧ (c = false → S i undef w)
def ObsP (P : Program) (n : Nat) (l : List Oper) (f0 : Fr) (S : Nat → Value → World → Prop) (w0 : World) : Nat → List Oper → Prop
  | _, [] => True
  | i, o :: r => ObP P n l f0 S w0 i o ∧ ObsP P n l f0 S w0 (i + 1) r
theorem ObsP.obsJ {l : List Oper} {f0 : Fr} {S : Nat → Value → World → Prop} {w0 : World} : ∀ {r : List Oper} {i : Nat}, ObsP P n l f0 S w0 i r → ObsJ P n l f0 (Keep []) (fun _ _ => True) S w0 i r
  | [], _, _ => trivial
  | o :: r, i, ⟨⟨deps, hd, h⟩, h2⟩ => ⟨⟨deps, hd, fun L w _ _ hk _ vs hv => by
      obtain ⟨c, h3, h4, h5⟩ := h w hk vs hv
      exact ⟨c, h3, fun hc => (h4 hc).mono fun v w' ⟨k1, k2⟩ => ⟨k1, k2, trivial⟩, fun hc => ⟨h5 hc, trivial⟩⟩⟩, ObsP.obsJ h2⟩
theorem tw_drawn {id : Nat} {l : List Oper} (hm : P.follows .mixedOrders = true) (f0 : Fr) (S : Nat → Value → World → Prop) (hf : Fr.sub f0 f) (hok : drawOk n l = true) (hfree : freeOk l f0 = true)
    (hst : ∀ i v w w', S i v w → Keep [] w w' → S i v w')
    (hob : ObsP P n l f0 S w 0 l)
    (h : ∀ w', Keep [] w w' → ∀ vs : Nat → Value, (∀ i, i < l.length → hasDst l i = true → S i (vs i) w') → TW P fin n k (depFr l vs ((List.range l.length).filter (hasDst l)) ++ f0) w') :
    TW P fin n (.c (.region id l.toArray true) :: k) f w :=
  tw_drawnJ hm f0 (Keep []) (fun _ _ => True) S hf hok hfree (fun a => Keep.refl [] a) (fun _ _ _ h1 h2 => h1.trans h2) (keep_drew w) trivial hst hob.obsJ (fun w' hw _ _ _ vs hv => h w' hw vs hv)
end
end Go.Eng
