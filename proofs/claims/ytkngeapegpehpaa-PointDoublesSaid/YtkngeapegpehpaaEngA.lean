/- The walking engine, part 1: frames as lists of known slots, code as a stack of items. Nothing here names a program. -/
import Derived.WalkKit
import Derived.Deep.LoopGhost
import Derived.Orders
import Derived.Below
import Derived.Scope
namespace Go.Eng
open Go

/-- What is known of a frame: slot and value, the newest first. -/
abbrev Fr := List (Nat × Value)
def Fr.get : Fr → Nat → Option Value
  | [], _ => none
  | (k, v) :: r, t => bif Nat.beq k t then some v else Fr.get r t
def Fr.ev (f : Fr) : Operand → Option Value
  | .tmp t => f.get t
  | .const v => some v
  | .global g => some (.pointer (some ⟨g, 0, none⟩))
  | .func k => some (.func (.func k) #[] #[])
def Fr.evs (f : Fr) : List Operand → Option (List Value)
  | [] => some []
  | x :: r => match f.ev x with
    | some v => match Fr.evs f r with
      | some vs => some (v :: vs)
      | none => none
    | none => none
def Fr.sub : Fr → Fr → Prop
  | [], _ => True
  | (t, v) :: g, f => f.get t = some v ∧ Fr.sub g f

structure Kn (n : Nat) (f : Fr) (a : Act) : Prop where
  size : a.tmps.size = n
  defers : a.defers = []
  get : ∀ t v, f.get t = some v → a.tmps.getD t undef = v

theorem Kn.ev {n : Nat} {f : Fr} {a : Act} (h : Kn n f a) {x : Operand} {v : Value} (hx : f.ev x = some v) : a.eval x = v := by
  cases x with
  | tmp t => exact h.get t v hx
  | const c => simp only [Fr.ev, Option.some.injEq] at hx; subst hx; rfl
  | global g => simp only [Fr.ev, Option.some.injEq] at hx; subst hx; rfl
  | func k => simp only [Fr.ev, Option.some.injEq] at hx; subst hx; rfl

theorem Kn.evs {n : Nat} {f : Fr} {a : Act} (h : Kn n f a) : ∀ {xs : List Operand} {vs : List Value}, f.evs xs = some vs → xs.map a.eval = vs
  | [], vs, hx => by simp only [Fr.evs, Option.some.injEq] at hx; subst hx; rfl
  | x :: r, vs, hx => by
    unfold Fr.evs at hx
    split at hx
    · rename_i v hv
      split at hx
      · rename_i us hu
        simp only [Option.some.injEq] at hx
        subst hx
        simp only [List.map_cons, h.ev hv, Kn.evs h hu]
      · cases hx
    · cases hx

theorem Kn.put {n : Nat} {f : Fr} {a : Act} (h : Kn n f a) {d : Nat} (hd : d < n) (v : Value) : Kn n ((d, v) :: f) (a.put (some d) v) := by
  refine ⟨by simp [Act.put, h.size], by simp [Act.put, h.defers], ?_⟩
  intro t u ht
  simp only [Fr.get] at ht
  by_cases e : Nat.beq d t = true
  · rw [e] at ht
    simp only [cond_true, Option.some.injEq] at ht
    have e' : d = t := Nat.eq_of_beq_eq_true e
    subst e' ht
    simp [Act.put, Array.getD, h.size, hd]
  · have e' : Nat.beq d t = false := eq_false_of_ne_true e
    rw [e'] at ht
    simp only [cond_false] at ht
    have := h.get t u ht
    have hne : d ≠ t := fun hh => by subst hh; simp at e'
    rw [← this]
    simp only [Act.put, Array.getD_eq_getD_getElem?]
    rw [Array.getElem?_setIfInBounds_ne hne]

theorem Kn.sub {n : Nat} {f : Fr} {a : Act} (h : Kn n f a) : ∀ {g : Fr}, Fr.sub g f → Kn n g a
  | [], _ => ⟨h.size, h.defers, fun t v ht => by cases ht⟩
  | (k, u) :: g, hs => by
    obtain ⟨h1, h2⟩ := hs
    have ih := Kn.sub h h2
    refine ⟨h.size, h.defers, fun t v ht => ?_⟩
    simp only [Fr.get] at ht
    by_cases e : Nat.beq k t = true
    · rw [e] at ht
      simp only [cond_true, Option.some.injEq] at ht
      have e' : k = t := Nat.eq_of_beq_eq_true e
      subst e' ht
      exact h.get _ _ h1
    · have e' : Nat.beq k t = false := eq_false_of_ne_true e
      rw [e'] at ht
      exact ih.get t v ht

/-- What is still to be done behind the code at hand. -/
inductive KI where
  | c (c : Code)
  | b (id : Nat)
  | s (m : Nat) (body : Code)
  | inv (I : Act → World → Prop)
  | lp (m : Nat) (body : Code)

/-- Behind a loop's body, where at most m further rounds are begun. -/
def LQ (P : Program) (body : Code) (Q : Exit → Act → World → Prop) : Nat → Exit → Act → World → Prop
  | 0, e, a, w => match e with
    | .normal => False
    | e => Q e a w
  | m + 1, e, a, w => match e with
    | .normal => body.wp P (LQ P body Q m) a w
    | e => Q e a w
/-- Behind a scope's body in which at most m jumps are still made. -/
def SQ (P : Program) (body : Code) (Q : Exit → Act → World → Prop) : Nat → Exit → Act → World → Prop
  | 0, e, a, w => match e with
    | .goto _ => False
    | e => Q e a w
  | m + 1, e, a, w => match e with
    | .goto l => ∃ rest, findLabel body l = some rest ∧ rest.wp P (SQ P body Q m) a w
    | e => Q e a w
def KQ (P : Program) (fin : Exit → Act → World → Prop) : List KI → Exit → Act → World → Prop
  | [], e, a, w => fin e a w
  | .c y :: k, .normal, a, w => y.wp P (KQ P fin k) a w
  | .c _ :: k, e, a, w => KQ P fin k e a w
  | .b _ :: k, .normal, a, w => KQ P fin k .normal a w
  | .b id :: k, .exit id', a, w => if id' = id then KQ P fin k .normal a w else KQ P fin k (.exit id') a w
  | .b _ :: k, e, a, w => KQ P fin k e a w
  | .s m body :: k, e, a, w => SQ P body (KQ P fin k) m e a w
  | .inv I :: _, .normal, a, w => I a w
  | .inv _ :: k, e, a, w => KQ P fin k e a w
  | .lp m body :: k, e, a, w => LQ P body (KQ P fin k) m e a w
theorem LQ_not {P : Program} {body : Code} {Q : Exit → Act → World → Prop} {m : Nat} {e : Exit} {a : Act} {w : World} (h : e ≠ .normal) : LQ P body Q m e a w = Q e a w := by
  cases m <;> cases e <;> first | rfl | exact absurd rfl h
theorem SQ_not {P : Program} {body : Code} {Q : Exit → Act → World → Prop} {m : Nat} {e : Exit} {a : Act} {w : World} (h : ∀ l, e ≠ .goto l) : SQ P body Q m e a w = Q e a w := by
  cases m <;> cases e <;> first | rfl | exact absurd rfl (h _)

theorem KQ_ret (P : Program) (fin : Exit → Act → World → Prop) (a : Act) (w : World) : ∀ k : List KI, KQ P fin k .ret a w = fin .ret a w
  | [] => rfl
  | .c _ :: k => by simp only [KQ]; exact KQ_ret P fin a w k
  | .b _ :: k => by simp only [KQ]; exact KQ_ret P fin a w k
  | .s _ _ :: k => by simp only [KQ]; rw [SQ_not (fun l h => by cases h)]; exact KQ_ret P fin a w k
  | .inv _ :: k => by simp only [KQ]; exact KQ_ret P fin a w k
  | .lp _ _ :: k => by simp only [KQ]; rw [LQ_not (fun h => by cases h)]; exact KQ_ret P fin a w k

theorem KQ_panic (P : Program) (fin : Exit → Act → World → Prop) (ch : List PanicEntry) (a : Act) (w : World) : ∀ k : List KI, KQ P fin k (.panic ch) a w = fin (.panic ch) a w
  | [] => rfl
  | .c _ :: k => by simp only [KQ]; exact KQ_panic P fin ch a w k
  | .b _ :: k => by simp only [KQ]; exact KQ_panic P fin ch a w k
  | .s _ _ :: k => by simp only [KQ]; rw [SQ_not (fun l h => by cases h)]; exact KQ_panic P fin ch a w k
  | .inv _ :: k => by simp only [KQ]; exact KQ_panic P fin ch a w k
  | .lp _ _ :: k => by simp only [KQ]; rw [LQ_not (fun h => by cases h)]; exact KQ_panic P fin ch a w k

/-- The stack of items, from a frame of which this much is known. -/
def TW (P : Program) (fin : Exit → Act → World → Prop) (n : Nat) (k : List KI) (f : Fr) (w : World) : Prop := ∀ a, Kn n f a → KQ P fin k .normal a w

section
variable {P : Program} {fin : Exit → Act → World → Prop} {n : Nat} {k : List KI} {f : Fr} {w : World}

theorem tw_keep (g : Fr) (hs : Fr.sub g f) (h : TW P fin n k g w) : TW P fin n k f w := fun a ha => h a (ha.sub hs)

theorem tw_seq {x y : Code} (h : TW P fin n (.c x :: .c y :: k) f w) : TW P fin n (.c (.seq x y) :: k) f w := by
  intro a ha
  have h' := h a ha
  simp only [KQ] at h' ⊢
  refine wp_seq (Code.wp_mono (fun e a w q => ?_) h')
  cases e <;> exact q

theorem tw_skip (h : TW P fin n k f w) : TW P fin n (.c .skip :: k) f w := fun a ha => wp_skip (h a ha)
theorem tw_label {l : Nat} (h : TW P fin n k f w) : TW P fin n (.c (.label l) :: k) f w := fun a ha => wp_label (h a ha)
theorem tw_block {id : Nat} {c : Code} (h : TW P fin n (.c c :: .b id :: k) f w) : TW P fin n (.c (.block id c) :: k) f w := by
  intro a ha
  have h' := h a ha
  simp only [KQ] at h' ⊢
  refine wp_block (Code.wp_mono (fun e a w q => ?_) h')
  cases e <;> exact q
theorem tw_b {id : Nat} (h : TW P fin n k f w) : TW P fin n (.b id :: k) f w := fun a ha => h a ha
theorem tw_s {m : Nat} {c : Code} (h : TW P fin n k f w) : TW P fin n (.s m c :: k) f w := fun a ha => by
  simp only [KQ]; rw [SQ_not (fun l h => by cases h)]; exact h a ha
theorem scope_run {body : Code} {Q : Exit → Act → World → Prop} : ∀ (m : Nat) (c : Code) (a : Act) (w : World), c.wp P (SQ P body Q m) a w → ∀ (b : Frame) (k : List Item) (cs : List Frame),
    ∃ e a' w', Q e a' w' ∧ Arrives P (lone (b.at a (.code c :: .inScope body :: k)) cs w) b k cs e a' w' := by
  intro m
  induction m with
  | zero =>
    intro c a w h b k cs
    obtain ⟨e, a₁, w₁, hq, harr⟩ := h b (.inScope body :: k) cs
    cases e with
    | normal => exact ⟨.normal, a₁, w₁, hq, Steps.trans harr (.one step_inScope)⟩
    | exit id => exact ⟨.exit id, a₁, w₁, hq, fun k' hk => harr k' (by simp [exitTo, hk])⟩
    | goto l => exact hq.elim
    | ret => exact ⟨_, a₁, w₁, hq, harr⟩
    | panic ch => exact ⟨_, a₁, w₁, hq, harr⟩
    | outgrown => exact ⟨_, a₁, w₁, hq, harr⟩
  | succ m ih =>
    intro c a w h b k cs
    obtain ⟨e, a₁, w₁, hq, harr⟩ := h b (.inScope body :: k) cs
    cases e with
    | normal => exact ⟨.normal, a₁, w₁, hq, Steps.trans harr (.one step_inScope)⟩
    | exit id => exact ⟨.exit id, a₁, w₁, hq, fun k' hk => harr k' (by simp [exitTo, hk])⟩
    | goto l =>
      obtain ⟨rest, hf, hr⟩ := hq
      obtain ⟨e₂, a₂, w₂, hq₂, harr₂⟩ := ih rest a₁ w₁ hr b k cs
      exact ⟨e₂, a₂, w₂, hq₂, .of_steps (harr _ (by simp [gotoIn, hf])) harr₂⟩
    | ret => exact ⟨_, a₁, w₁, hq, harr⟩
    | panic ch => exact ⟨_, a₁, w₁, hq, harr⟩
    | outgrown => exact ⟨_, a₁, w₁, hq, harr⟩
/-- A scope in which at most m jumps are made. -/
theorem tw_scope (m : Nat) {body : Code} (h : TW P fin n (.c body :: .s m body :: k) f w) : TW P fin n (.c (.scope body) :: k) f w := by
  intro a ha b k' cs
  have h' := h a ha
  simp only [KQ] at h'
  obtain ⟨e, a₁, w₁, hq, harr⟩ := scope_run m body a w h' b k' cs
  exact ⟨e, a₁, w₁, hq, .of_steps (.one step_scope) harr⟩
def gotoK (l : Nat) : List KI → Option (List KI)
  | [] => none
  | .s 0 _ :: _ => none
  | .s (m + 1) body :: k => match findLabel body l with
    | some rest => some (.c rest :: .s m body :: k)
    | none => none
  | _ :: k => gotoK l k
theorem KQ_goto {l : Nat} {a : Act} {w : World} : ∀ {k k' : List KI}, gotoK l k = some k' → KQ P fin k' .normal a w → KQ P fin k (.goto l) a w
  | [], _, h, _ => by cases h
  | .s 0 _ :: _, _, h, _ => by cases h
  | .s (m + 1) body :: k, k', h, hk => by
    simp only [gotoK] at h
    split at h
    · rename_i rest hf
      simp only [Option.some.injEq] at h
      subst h
      simp only [KQ] at hk ⊢
      refine ⟨rest, hf, ?_⟩
      exact Code.wp_mono (fun e a w q => by simpa only [KQ] using q) hk
    · cases h
  | .c _ :: k, k', h, hk => by simp only [gotoK] at h; simp only [KQ]; exact KQ_goto h hk
  | .b _ :: k, k', h, hk => by simp only [gotoK] at h; simp only [KQ]; exact KQ_goto h hk
  | .inv _ :: k, k', h, hk => by simp only [gotoK] at h; simp only [KQ]; exact KQ_goto h hk
  | .lp _ _ :: k, k', h, hk => by simp only [gotoK] at h; simp only [KQ]; rw [LQ_not (fun h => by cases h)]; exact KQ_goto h hk
theorem tw_goto {l : Nat} {k' : List KI} (he : gotoK l k = some k') (h : TW P fin n k' f w) : TW P fin n (.c (.goto l) :: k) f w :=
  fun a ha => wp_goto (KQ_goto he (h a ha))

def exitK (id : Nat) : List KI → Option (List KI)
  | [] => none
  | .b id' :: k => bif Nat.beq id' id then some k else exitK id k
  | _ :: k => exitK id k
theorem KQ_exit {id : Nat} {a : Act} {w : World} : ∀ {k k' : List KI}, exitK id k = some k' → KQ P fin k' .normal a w → KQ P fin k (.exit id) a w
  | [], _, h, _ => by cases h
  | .b id' :: k, k', h, hk => by
    simp only [exitK] at h
    simp only [KQ]
    by_cases e : Nat.beq id' id = true
    · rw [e] at h
      simp only [cond_true, Option.some.injEq] at h
      subst h
      rw [if_pos (Nat.eq_of_beq_eq_true e).symm]; exact hk
    · have e' : Nat.beq id' id = false := eq_false_of_ne_true e
      rw [e'] at h
      have hne : ¬ id = id' := fun hh => by subst hh; simp at e'
      rw [if_neg hne]
      exact KQ_exit h hk
  | .c _ :: k, k', h, hk => by simp only [exitK] at h; simp only [KQ]; exact KQ_exit h hk
  | .s _ _ :: k, k', h, hk => by simp only [exitK] at h; simp only [KQ]; rw [SQ_not (fun l h => by cases h)]; exact KQ_exit h hk
  | .inv _ :: k, k', h, hk => by simp only [exitK] at h; simp only [KQ]; exact KQ_exit h hk
  | .lp _ _ :: k, k', h, hk => by simp only [exitK] at h; simp only [KQ]; rw [LQ_not (fun h => by cases h)]; exact KQ_exit h hk
theorem tw_exit {id : Nat} {k' : List KI} (he : exitK id k = some k') (h : TW P fin n k' f w) : TW P fin n (.c (.exit id) :: k) f w :=
  fun a ha => wp_exit (KQ_exit he (h a ha))

theorem tw_cond {c : Operand} {x y : Code} {t : Bool} (hc : f.ev c = some (.bool t)) (ht : t = true → TW P fin n (.c x :: k) f w) (hf : t = false → TW P fin n (.c y :: k) f w) :
    TW P fin n (.c (.cond c x y) :: k) f w := fun a ha => wp_cond_split (ha.ev hc) (fun h => ht h a ha) (fun h => hf h a ha)
theorem tw_cond_true {c : Operand} {x y : Code} (hc : f.ev c = some (.bool true)) (h : TW P fin n (.c x :: k) f w) :
    TW P fin n (.c (.cond c x y) :: k) f w := fun a ha => wp_cond_true (ha.ev hc) (h a ha)
theorem tw_cond_false {c : Operand} {x y : Code} (hc : f.ev c = some (.bool false)) (h : TW P fin n (.c y :: k) f w) :
    TW P fin n (.c (.cond c x y) :: k) f w := fun a ha => wp_cond_false (ha.ev hc) (h a ha)
/-- A test on a proposition: each way with what it knows. -/
theorem tw_if {c : Operand} {x y : Code} {p : Prop} [Decidable p] (hc : f.ev c = some (.bool (decide p))) (ht : p → TW P fin n (.c x :: k) f w) (hf : ¬ p → TW P fin n (.c y :: k) f w) :
    TW P fin n (.c (.cond c x y) :: k) f w :=
  tw_cond hc (fun h => ht (of_decide_eq_true h)) (fun h => hf (of_decide_eq_false h))

theorem tw_ifT {c : Operand} {x y : Code} {p : Prop} [Decidable p] (hc : f.ev c = some (.bool (decide p))) (hp : p) (h : TW P fin n (.c x :: k) f w) : TW P fin n (.c (.cond c x y) :: k) f w :=
  tw_if hc (fun _ => h) (fun hn => absurd hp hn)
theorem tw_ifF {c : Operand} {x y : Code} {p : Prop} [Decidable p] (hc : f.ev c = some (.bool (decide p))) (hp : ¬ p) (h : TW P fin n (.c y :: k) f w) : TW P fin n (.c (.cond c x y) :: k) f w :=
  tw_if hc (fun hn => absurd hn hp) (fun _ => h)
theorem tw_condT {c : Operand} {x y : Code} {t : Bool} (hc : f.ev c = some (.bool t)) (ht : t = true) (h : TW P fin n (.c x :: k) f w) : TW P fin n (.c (.cond c x y) :: k) f w :=
  tw_cond hc (fun _ => h) (fun hf => by rw [ht] at hf; cases hf)
theorem tw_condF {c : Operand} {x y : Code} {t : Bool} (hc : f.ev c = some (.bool t)) (ht : t = false) (h : TW P fin n (.c y :: k) f w) : TW P fin n (.c (.cond c x y) :: k) f w :=
  tw_cond hc (fun hf => by rw [ht] at hf; cases hf) (fun _ => h)

theorem loop_run {body : Code} {Q : Exit → Act → World → Prop} : ∀ (m : Nat) (a : Act) (w : World), body.wp P (LQ P body Q m) a w → ∀ (b : Frame) (k : List Item) (cs : List Frame),
    ∃ e a' w', Q e a' w' ∧ Arrives P (lone (b.at a (.code body :: .inLoop body :: k)) cs w) b k cs e a' w' := by
  intro m
  induction m with
  | zero =>
    intro a w h b k cs
    obtain ⟨e, a₁, w₁, hq, harr⟩ := h b (.inLoop body :: k) cs
    cases e with
    | normal => exact hq.elim
    | exit id => exact ⟨_, a₁, w₁, hq, .pass (x := .inLoop body) rfl (fun _ _ => .inl (by simp)) harr⟩
    | goto l => exact ⟨_, a₁, w₁, hq, .pass (x := .inLoop body) rfl (fun _ _ => .inl (by simp)) harr⟩
    | ret => exact ⟨_, a₁, w₁, hq, .pass (x := .inLoop body) rfl (fun _ _ => .inl (by simp)) harr⟩
    | panic ch => exact ⟨_, a₁, w₁, hq, .pass (x := .inLoop body) rfl (fun _ _ => .inl (by simp)) harr⟩
    | outgrown => exact ⟨_, a₁, w₁, hq, .pass (x := .inLoop body) rfl (fun _ _ => .inl (by simp)) harr⟩
  | succ m ih =>
    intro a w h b k cs
    obtain ⟨e, a₁, w₁, hq, harr⟩ := h b (.inLoop body :: k) cs
    cases e with
    | normal =>
      obtain ⟨e₂, a₂, w₂, hq₂, harr₂⟩ := ih a₁ w₁ hq b k cs
      exact ⟨e₂, a₂, w₂, hq₂, .of_steps (Steps.trans harr (.one step_inLoop)) harr₂⟩
    | exit id => exact ⟨_, a₁, w₁, hq, .pass (x := .inLoop body) rfl (fun _ _ => .inl (by simp)) harr⟩
    | goto l => exact ⟨_, a₁, w₁, hq, .pass (x := .inLoop body) rfl (fun _ _ => .inl (by simp)) harr⟩
    | ret => exact ⟨_, a₁, w₁, hq, .pass (x := .inLoop body) rfl (fun _ _ => .inl (by simp)) harr⟩
    | panic ch => exact ⟨_, a₁, w₁, hq, .pass (x := .inLoop body) rfl (fun _ _ => .inl (by simp)) harr⟩
    | outgrown => exact ⟨_, a₁, w₁, hq, .pass (x := .inLoop body) rfl (fun _ _ => .inl (by simp)) harr⟩
/-- A loop of which at most m rounds more than one are begun, round by round. -/
theorem tw_unroll (m : Nat) {body : Code} (h : TW P fin n (.c body :: .lp m body :: k) f w) : TW P fin n (.c (.loop body) :: k) f w := by
  intro a ha b k' cs
  have h' := h a ha
  simp only [KQ] at h'
  obtain ⟨e, a₁, w₁, hq, harr⟩ := loop_run m a w h' b k' cs
  exact ⟨e, a₁, w₁, hq, .of_steps (.one step_loop) harr⟩
theorem tw_lp {m : Nat} {body : Code} (h : TW P fin n (.c body :: .lp m body :: k) f w) : TW P fin n (.lp (m + 1) body :: k) f w := by
  intro a ha
  have h' := h a ha
  simp only [KQ] at h' ⊢
  exact h'

/-- A loop with an invariant over ghosts. -/
theorem tw_loop {Γ : Type} {body : Code} (fr : Γ → Fr) (I : Γ → World → Prop) (μ : Γ → Nat) (γ₀ : Γ) (h0 : Fr.sub (fr γ₀) f) (hI : I γ₀ w)
    (round : ∀ γ w, I γ w → TW P fin n (.c body :: .inv (fun a' w' => ∃ γ', μ γ' < μ γ ∧ Kn n (fr γ') a' ∧ I γ' w') :: k) (fr γ) w) :
    TW P fin n (.c (.loop body) :: k) f w := by
  intro a ha
  simp only [KQ]
  refine wp_loop_ghost (fun m a w => ∃ γ, μ γ = m ∧ Kn n (fr γ) a ∧ I γ w) (μ γ₀) ⟨γ₀, rfl, ha.sub h0, hI⟩ ?_
  rintro m a w ⟨γ, rfl, hk, hi⟩
  have h' := round γ w hi a hk
  simp only [KQ] at h'
  refine Code.wp_mono (fun e a w q => ?_) h'
  cases e with
  | normal =>
    obtain ⟨γ', hlt, hk', hi'⟩ := q
    exact ⟨μ γ', hlt, γ', rfl, hk', hi'⟩
  | _ => exact q

theorem tw_inv {Γ : Type} {fr : Γ → Fr} {I : Γ → World → Prop} {μ : Γ → Nat} {m : Nat} (γ' : Γ) (hs : Fr.sub (fr γ') f) (hm : μ γ' < m) (hi : I γ' w) :
    TW P fin n (.inv (fun a' w' => ∃ γ', μ γ' < m ∧ Kn n (fr γ') a' ∧ I γ' w') :: k) f w :=
  fun _ ha => ⟨γ', hm, ha.sub hs, hi⟩

/-- A cut: what stands behind the first items is shown once, from what the cut says of slots and world. -/
theorem tw_cut {Γ : Type} {c : Code} (fr : Γ → Fr) (I : Γ → World → Prop)
    (h1 : TW P fin n (.c c :: .inv (fun a' w' => ∃ γ', Kn n (fr γ') a' ∧ I γ' w') :: k) f w)
    (h2 : ∀ γ w, I γ w → TW P fin n k (fr γ) w) : TW P fin n (.c c :: k) f w := by
  intro a ha
  have h' := h1 a ha
  simp only [KQ] at h' ⊢
  refine Code.wp_mono (fun e a w q => ?_) h'
  cases e with
  | normal =>
    obtain ⟨γ', hk', hi'⟩ := q
    exact h2 γ' w hi' a hk'
  | _ => exact q
theorem tw_meet {Γ : Type} {fr : Γ → Fr} {I : Γ → World → Prop} (γ' : Γ) (hs : Fr.sub (fr γ') f) (hi : I γ' w) :
    TW P fin n (.inv (fun a' w' => ∃ γ', Kn n (fr γ') a' ∧ I γ' w') :: k) f w := fun _ ha => ⟨γ', ha.sub hs, hi⟩

/-- The operations of a region, in order. -/
def OW (P : Program) (fin : Exit → Act → World → Prop) (n : Nat) (k : List KI) (ops : Array Oper) (l : List Oper) (f : Fr) (w : World) : Prop :=
  ∀ a, Kn n f a → wpList P ops (KQ P fin k) l a w
variable {ops : Array Oper} {l : List Oper}
theorem tw_region {id : Nat} {l : List Oper} (h : OW P fin n k l.toArray l f w) : TW P fin n (.c (.region id l.toArray false) :: k) f w :=
  fun a ha => wp_region_lit (h a ha)
theorem ow_nil (h : TW P fin n k f w) : OW P fin n k ops [] f w := fun a ha => wpList_nil (h a ha)
theorem ow_keep (g : Fr) (hs : Fr.sub g f) (h : OW P fin n k ops l g w) : OW P fin n k ops l f w := fun a ha => h a (ha.sub hs)
/-- What stands behind the first m operations is shown once. -/
theorem ow_cut (m : Nat) (g : Fr) (h1 : OW P fin n k ops (l.drop m) g w → OW P fin n k ops l f w) (h2 : OW P fin n k ops (l.drop m) g w) : OW P fin n k ops l f w := h1 h2

theorem ow_val {op : Op} {d : Nat} {ty : TypeId} {pos : String} {aft : Array Edge} (v : Value) (w' : World)
    (hr : ∀ a, Kn n f a → (execOp a.eval ⟨some d, op, ty, pos, aft, none⟩).run P w = .ok (.value v) w') (hd : d < n)
    (h : OW P fin n k ops l ((d, v) :: f) w') : OW P fin n k ops (⟨some d, op, ty, pos, aft, none⟩ :: l) f w := by
  intro a ha
  refine wpList_plain rfl fun K hK => ?_
  unfold Oper.wp
  rw [hr a ha]
  exact hK _ _ (h _ (ha.put hd v))

theorem ow_unit {op : Op} {ty : TypeId} {pos : String} {aft : Array Edge} (w' : World)
    (hr : ∀ a, Kn n f a → (execOp a.eval ⟨none, op, ty, pos, aft, none⟩).run P w = .ok .skip w')
    (h : OW P fin n k ops l f w') : OW P fin n k ops (⟨none, op, ty, pos, aft, none⟩ :: l) f w := by
  intro a ha
  refine wpList_plain rfl fun K hK => ?_
  unfold Oper.wp
  rw [hr a ha]
  exact hK _ _ (h _ ha)

/-- A guarded operation that is carried out, and one that is not. -/
theorem ow_guard_yes {o : Oper} {j : Nat} {want : Bool} {oj : Oper} {d : Nat} (hg : o.guard = some (j, want)) (hj : ops[j]? = some oj) (hd : oj.dst = some d) (hf : f.get d = some (.bool want))
    (h : OW P fin n k ops ({ o with guard := none } :: l) f w) : OW P fin n k ops (o :: l) f w := by
  intro a ha
  have h' := h a ha
  have hv := ha.get d _ hf
  have hlt : d < a.tmps.size := by
    rcases Nat.lt_or_ge d a.tmps.size with h | h
    · exact h
    · rw [Array.getD_eq_getD_getElem?, Array.getElem?_eq_none h] at hv; cases hv
  have hy : yielded ops a.tmps j = some want := by
    have e : a.tmps[d]? = some (.bool want) := by
      rw [Array.getElem?_eq_getElem hlt]
      rw [Array.getD_eq_getD_getElem?, Array.getElem?_eq_getElem hlt] at hv
      simpa using hv
    simp [yielded, hj, hd, e]
  unfold wpList at h' ⊢
  rw [if_pos (by simp [Region.wanted])] at h'
  rw [if_pos (by simp [Region.wanted, hg, hy])]
  exact h'
theorem ow_guard_no {o : Oper} {j : Nat} {want b : Bool} {oj : Oper} {d d' : Nat} (hg : o.guard = some (j, want)) (hj : ops[j]? = some oj) (hd : oj.dst = some d) (hf : f.get d = some (.bool b))
    (hb : b ≠ want) (ho : o.dst = some d') (hd' : d' < n)
    (h : OW P fin n k ops l ((d', undef) :: f) w) : OW P fin n k ops (o :: l) f w := by
  intro a ha
  have hv := ha.get d _ hf
  have hlt : d < a.tmps.size := by
    rcases Nat.lt_or_ge d a.tmps.size with h | h
    · exact h
    · rw [Array.getD_eq_getD_getElem?, Array.getElem?_eq_none h] at hv; cases hv
  have hy : yielded ops a.tmps j = some b := by
    have e : a.tmps[d]? = some (.bool b) := by
      rw [Array.getElem?_eq_getElem hlt]
      rw [Array.getD_eq_getD_getElem?, Array.getElem?_eq_getElem hlt] at hv
      simpa using hv
    simp [yielded, hj, hd, e]
  unfold wpList
  rw [if_neg (by simp [Region.wanted, hg, hy, hb]), ho]
  exact h _ (ha.put hd' undef)
theorem ow_guard_no0 {o : Oper} {j : Nat} {want b : Bool} {oj : Oper} {d : Nat} (hg : o.guard = some (j, want)) (hj : ops[j]? = some oj) (hd : oj.dst = some d) (hf : f.get d = some (.bool b))
    (hb : b ≠ want) (ho : o.dst = none)
    (h : OW P fin n k ops l f w) : OW P fin n k ops (o :: l) f w := by
  intro a ha
  have hv := ha.get d _ hf
  have hlt : d < a.tmps.size := by
    rcases Nat.lt_or_ge d a.tmps.size with h | h
    · exact h
    · rw [Array.getD_eq_getD_getElem?, Array.getElem?_eq_none h] at hv; cases hv
  have hy : yielded ops a.tmps j = some b := by
    have e : a.tmps[d]? = some (.bool b) := by
      rw [Array.getElem?_eq_getElem hlt]
      rw [Array.getD_eq_getD_getElem?, Array.getElem?_eq_getElem hlt] at hv
      simpa using hv
    simp [yielded, hj, hd, e]
  unfold wpList
  rw [if_neg (by simp [Region.wanted, hg, hy, hb]), ho]
  exact h _ ha
end

/-- Function number i has a body of Go text. -/
def CallOk (P : Program) (i : FuncId) : Prop := ∃ fn, P.funcs[i]? = some fn ∧ fn.body.isSome = true ∧ (fn.name == "runtime.NumGoroutine") = false
/-- A call that returns. -/
structure Rets (P : Program) (i : FuncId) (args : List Value) (w : World) (R : Value → World → Prop) : Prop where
  ok : CallOk P i
  calls : Calls P i args.toArray w fun e w' => ∃ v, e = .returned v ∧ R v w'
theorem Rets.mono {P : Program} {i : FuncId} {args : List Value} {w : World} {R R' : Value → World → Prop} (h : Rets P i args w R) (hr : ∀ v w', R v w' → R' v w') : Rets P i args w R' :=
  ⟨h.ok, Calls.mono h.calls fun _ w' ⟨v, he, hv⟩ => ⟨v, he, hr v w' hv⟩⟩

def argFr : Nat → List Value → Fr
  | _, [] => []
  | i, v :: r => (i, v) :: argFr (i + 1) r
theorem argFr_get : ∀ (vs : List Value) (i t : Nat) (v : Value), Fr.get (argFr i vs) t = some v → i ≤ t ∧ vs[t - i]? = some v
  | [], _, _, _, h => by cases h
  | u :: r, i, t, v, h => by
    simp only [argFr, Fr.get] at h
    by_cases e : Nat.beq i t = true
    · rw [e] at h
      simp only [cond_true, Option.some.injEq] at h
      have e' : i = t := Nat.eq_of_beq_eq_true e
      subst e' h
      simp
    · have e' : Nat.beq i t = false := eq_false_of_ne_true e
      rw [e'] at h
      have ih := argFr_get r (i + 1) t v h
      refine ⟨by omega, ?_⟩
      have : t - i = (t - (i + 1)) + 1 := by omega
      rw [this]
      simpa using ih.2

theorem rets_of_tw {P : Program} {i : FuncId} {fn : Func} {c : Code} {args : List Value} {w : World} {R : Value → World → Prop} {n : Nat}
    (hf : P.funcs[i]? = some fn) (hb : fn.body = some c) (hnm : (fn.name == "runtime.NumGoroutine") = false) (hn : fn.ntmps = n) (hle : Nat.ble args.length n = true)
    (h : ∀ fin, (∀ e a w, fin e a w → bodyPost P fn (fun e w' => ∃ v, e = .returned v ∧ R v w') e a w) → (∀ a w, (a.defers = [] ∧ ∃ v, (results fn a.tmps).run P w = .ok v w ∧ R v w) → fin .ret a w ∧ fin .normal a w) →
      TW P fin n [.c c] (argFr 0 args) w) : Rets P i args w R := by
  replace hle := Nat.le_of_ble_eq_true hle
  refine ⟨⟨fn, hf, by rw [hb]; rfl, hnm⟩, calls_of_wp hf hb ?_⟩
  have hk : Kn n (argFr 0 args) { tmps := args.toArray ++ Array.replicate (fn.ntmps - args.toArray.size) undef, defers := [] } := by
    refine ⟨by simp [hn]; omega, rfl, fun t v ht => ?_⟩
    have := (argFr_get args 0 t v ht).2
    simp only [Nat.sub_zero] at this
    have hlt : t < args.length := by
      rcases Nat.lt_or_ge t args.length with h | h
      · exact h
      · rw [List.getElem?_eq_none h] at this; cases this
    rw [Array.getD_eq_getD_getElem?, Array.getElem?_append_left (by simpa using hlt)]
    simp [this]
  have h' := h (bodyPost P fn (fun e w' => ∃ v, e = .returned v ∧ R v w')) (fun _ _ _ q => q)
    (fun a w ⟨hd, v, hr, hR⟩ => ⟨⟨hd, v, hr, v, rfl, hR⟩, ⟨hd, v, hr, v, rfl, hR⟩⟩) _ hk
  simp only [KQ] at h'
  refine Code.wp_mono (fun e a w q => ?_) h'
  cases e <;> exact q

section
variable {P : Program} {fin : Exit → Act → World → Prop} {n : Nat} {k : List KI} {f : Fr} {w : World} {fn : Func} {R : Value → World → Prop}
theorem tw_ret0 (hfin : ∀ a w, (a.defers = [] ∧ ∃ v, (results fn a.tmps).run P w = .ok v w ∧ R v w) → fin .ret a w ∧ fin .normal a w) (hres : fn.results = #[]) (hR : R (.tuple #[]) w) :
    TW P fin n (.c .ret :: k) f w := fun a ha => wp_ret (by
  rw [KQ_ret]
  exact (hfin a w ⟨ha.defers, _, results_none hres _ _ _, hR⟩).1)
theorem tw_end0 (hfin : ∀ a w, (a.defers = [] ∧ ∃ v, (results fn a.tmps).run P w = .ok v w ∧ R v w) → fin .ret a w ∧ fin .normal a w) (hres : fn.results = #[]) (hR : R (.tuple #[]) w) :
    TW P fin n [] f w := fun a ha => (hfin a w ⟨ha.defers, _, results_none hres _ _ _, hR⟩).2
theorem tw_ret1 (hfin : ∀ a w, (a.defers = [] ∧ ∃ v, (results fn a.tmps).run P w = .ok v w ∧ R v w) → fin .ret a w ∧ fin .normal a w) {t : Nat} (hres : fn.results = #[.tmp t]) {v : Value} (hv : f.get t = some v) (hR : R v w) :
    TW P fin n (.c .ret :: k) f w := fun a ha => wp_ret (by
  rw [KQ_ret]
  refine (hfin a w ⟨ha.defers, _, results_tmp hres _ _ _, ?_⟩).1
  rw [ha.get t v hv]; exact hR)
theorem tw_ret2 (hfin : ∀ a w, (a.defers = [] ∧ ∃ v, (results fn a.tmps).run P w = .ok v w ∧ R v w) → fin .ret a w ∧ fin .normal a w) {t u : Nat} (hres : fn.results = #[.tmp t, .tmp u]) {v v' : Value} (hv : f.get t = some v) (hv' : f.get u = some v')
    (hR : R (.tuple #[v, v']) w) : TW P fin n (.c .ret :: k) f w := fun a ha => wp_ret (by
  rw [KQ_ret]
  refine (hfin a w ⟨ha.defers, _, results_tmp2 hres _ _ _, ?_⟩).1
  rw [ha.get t v hv, ha.get u v' hv']; exact hR)
theorem results_tmp3 {fn : Func} {t u s : Tmp} (h : fn.results = #[.tmp t, .tmp u, .tmp s]) (tmps : Array Value) (P : Program) (w : World) :
    (results fn tmps).run P w = .ok (.tuple #[tmps.getD t undef, tmps.getD u undef, tmps.getD s undef]) w := by
  simp [results, h]
theorem results_tmp4 {fn : Func} {t u s r : Tmp} (h : fn.results = #[.tmp t, .tmp u, .tmp s, .tmp r]) (tmps : Array Value) (P : Program) (w : World) :
    (results fn tmps).run P w = .ok (.tuple #[tmps.getD t undef, tmps.getD u undef, tmps.getD s undef, tmps.getD r undef]) w := by
  simp [results, h]
theorem tw_ret3 (hfin : ∀ a w, (a.defers = [] ∧ ∃ v, (results fn a.tmps).run P w = .ok v w ∧ R v w) → fin .ret a w ∧ fin .normal a w) {t u s : Nat} (hres : fn.results = #[.tmp t, .tmp u, .tmp s]) {v v' v'' : Value} (hv : f.get t = some v) (hv' : f.get u = some v') (hv'' : f.get s = some v'')
    (hR : R (.tuple #[v, v', v'']) w) : TW P fin n (.c .ret :: k) f w := fun a ha => wp_ret (by
  rw [KQ_ret]
  refine (hfin a w ⟨ha.defers, _, results_tmp3 hres _ _ _, ?_⟩).1
  rw [ha.get t v hv, ha.get u v' hv', ha.get s v'' hv'']; exact hR)
theorem tw_ret4 (hfin : ∀ a w, (a.defers = [] ∧ ∃ v, (results fn a.tmps).run P w = .ok v w ∧ R v w) → fin .ret a w ∧ fin .normal a w) {t u s r : Nat} (hres : fn.results = #[.tmp t, .tmp u, .tmp s, .tmp r]) {v v' v'' v3 : Value} (hv : f.get t = some v) (hv' : f.get u = some v') (hv'' : f.get s = some v'') (hv3 : f.get r = some v3)
    (hR : R (.tuple #[v, v', v'', v3]) w) : TW P fin n (.c .ret :: k) f w := fun a ha => wp_ret (by
  rw [KQ_ret]
  refine (hfin a w ⟨ha.defers, _, results_tmp4 hres _ _ _, ?_⟩).1
  rw [ha.get t v hv, ha.get u v' hv', ha.get s v'' hv'', ha.get r v3 hv3]; exact hR)
end
end Go.Eng
