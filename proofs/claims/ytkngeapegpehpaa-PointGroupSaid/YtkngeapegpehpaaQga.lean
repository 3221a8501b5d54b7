/- Contracts and laws, part 1 of 6: what each function of the program and of the reference computes, shown once. -/
import Derived.Below
import Derived.Deep.LoopGhost
import Derived.IntWalk
import Derived.KernelRfl
import Derived.Laws.BytesArg
import Derived.Laws.CopyOwn
import Derived.Lib.AppendZeros
import Derived.Lib.ConvBytes
import Derived.Lib.SliceRun
import Derived.Orders
import Derived.Scope
import Derived.StillTail
import Derived.Test.YtkngeapegpehpaaProg
import Derived.WalkKit
import Derived.WalkSpells
namespace Go.Eng
open Go
abbrev Fr := List (Nat × Value)
def Fr.get : Fr → Nat → Option Value
  | [], _ => none
  | (k, v) :: r, t => bif Nat.beq k t then some v else Fr.get r t
def Fr.ev (f : Fr) : Operand → Option Value
  | .tmp t => f.get t
  | .const v => some v
  | .global g => some (.pointer (some ⟨g, 0, none⟩))
  | .func k => some (.func (.func k) #[] #[])
def Fr.evs (f : Fr) : List Operand → Option (List Value)
  | [] => some []
  | x :: r => match f.ev x with
    | some v => match Fr.evs f r with
      | some vs => some (v :: vs)
      | none => none
    | none => none
def Fr.sub : Fr → Fr → Prop
  | [], _ => True
  | (t, v) :: g, f => f.get t = some v ∧ Fr.sub g f
structure Kn (n : Nat) (f : Fr) (a : Act) : Prop where
  size : a.tmps.size = n
  defers : a.defers = []
  get : ∀ t v, f.get t = some v → a.tmps.getD t undef = v
theorem Kn.ev {n : Nat} {f : Fr} {a : Act} (h : Kn n f a) {x : Operand} {v : Value} (hx : f.ev x = some v) : a.eval x = v := by
  cases x with
  | tmp t => exact h.get t v hx
  | const c => simp only [Fr.ev, Option.some.injEq] at hx; subst hx; rfl
  | global g => simp only [Fr.ev, Option.some.injEq] at hx; subst hx; rfl
  | func k => simp only [Fr.ev, Option.some.injEq] at hx; subst hx; rfl
theorem Kn.evs {n : Nat} {f : Fr} {a : Act} (h : Kn n f a) : ∀ {xs : List Operand} {vs : List Value}, f.evs xs = some vs → xs.map a.eval = vs
  | [], vs, hx => by simp only [Fr.evs, Option.some.injEq] at hx; subst hx; rfl
  | x :: r, vs, hx => by
    unfold Fr.evs at hx
    split at hx
    · rename_i v hv
      split at hx
      · rename_i us hu
        simp only [Option.some.injEq] at hx
        subst hx
        simp only [List.map_cons, h.ev hv, Kn.evs h hu]
      · cases hx
    · cases hx
theorem Kn.put {n : Nat} {f : Fr} {a : Act} (h : Kn n f a) {d : Nat} (hd : d < n) (v : Value) : Kn n ((d, v) :: f) (a.put (some d) v) := by
  refine ⟨by simp [Act.put, h.size], by simp [Act.put, h.defers], ?_⟩
  intro t u ht
  simp only [Fr.get] at ht
  by_cases e : Nat.beq d t = true
  · rw [e] at ht
    simp only [cond_true, Option.some.injEq] at ht
    have e' : d = t := Nat.eq_of_beq_eq_true e
    subst e' ht
    simp [Act.put, Array.getD, h.size, hd]
  · have e' : Nat.beq d t = false := eq_false_of_ne_true e
    rw [e'] at ht
    simp only [cond_false] at ht
    have := h.get t u ht
    have hne : d ≠ t := fun hh => by subst hh; simp at e'
    rw [← this]
    simp only [Act.put, Array.getD_eq_getD_getElem?]
    rw [Array.getElem?_setIfInBounds_ne hne]
theorem Kn.sub {n : Nat} {f : Fr} {a : Act} (h : Kn n f a) : ∀ {g : Fr}, Fr.sub g f → Kn n g a
  | [], _ => ⟨h.size, h.defers, fun t v ht => by cases ht⟩
  | (k, u) :: g, hs => by
    obtain ⟨h1, h2⟩ := hs
    have ih := Kn.sub h h2
    refine ⟨h.size, h.defers, fun t v ht => ?_⟩
    simp only [Fr.get] at ht
    by_cases e : Nat.beq k t = true
    · rw [e] at ht
      simp only [cond_true, Option.some.injEq] at ht
      have e' : k = t := Nat.eq_of_beq_eq_true e
      subst e' ht
      exact h.get _ _ h1
    · have e' : Nat.beq k t = false := eq_false_of_ne_true e
      rw [e'] at ht
      exact ih.get t v ht
inductive KI where
  | c (c : Code)
  | b (id : Nat)
  | s (m : Nat) (body : Code)
  | inv (I : Act → World → Prop)
  | lp (m : Nat) (body : Code)
def LQ (P : Program) (body : Code) (Q : Exit → Act → World → Prop) : Nat → Exit → Act → World → Prop
  | 0, e, a, w => match e with
    | .normal => False
    | e => Q e a w
  | m + 1, e, a, w => match e with
    | .normal => body.wp P (LQ P body Q m) a w
    | e => Q e a w
def SQ (P : Program) (body : Code) (Q : Exit → Act → World → Prop) : Nat → Exit → Act → World → Prop
  | 0, e, a, w => match e with
    | .goto _ => False
    | e => Q e a w
  | m + 1, e, a, w => match e with
    | .goto l => ∃ rest, findLabel body l = some rest ∧ rest.wp P (SQ P body Q m) a w
    | e => Q e a w
def KQ (P : Program) (fin : Exit → Act → World → Prop) : List KI → Exit → Act → World → Prop
  | [], e, a, w => fin e a w
  | .c y :: k, .normal, a, w => y.wp P (KQ P fin k) a w
  | .c _ :: k, e, a, w => KQ P fin k e a w
  | .b _ :: k, .normal, a, w => KQ P fin k .normal a w
  | .b id :: k, .exit id', a, w => if id' = id then KQ P fin k .normal a w else KQ P fin k (.exit id') a w
  | .b _ :: k, e, a, w => KQ P fin k e a w
  | .s m body :: k, e, a, w => SQ P body (KQ P fin k) m e a w
  | .inv I :: _, .normal, a, w => I a w
  | .inv _ :: k, e, a, w => KQ P fin k e a w
  | .lp m body :: k, e, a, w => LQ P body (KQ P fin k) m e a w
theorem LQ_not {P : Program} {body : Code} {Q : Exit → Act → World → Prop} {m : Nat} {e : Exit} {a : Act} {w : World} (h : e ≠ .normal) : LQ P body Q m e a w = Q e a w := by
  cases m <;> cases e <;> first | rfl | exact absurd rfl h
theorem SQ_not {P : Program} {body : Code} {Q : Exit → Act → World → Prop} {m : Nat} {e : Exit} {a : Act} {w : World} (h : ∀ l, e ≠ .goto l) : SQ P body Q m e a w = Q e a w := by
  cases m <;> cases e <;> first | rfl | exact absurd rfl (h _)
theorem KQ_ret (P : Program) (fin : Exit → Act → World → Prop) (a : Act) (w : World) : ∀ k : List KI, KQ P fin k .ret a w = fin .ret a w
  | [] => rfl
  | .c _ :: k => by simp only [KQ]; exact KQ_ret P fin a w k
  | .b _ :: k => by simp only [KQ]; exact KQ_ret P fin a w k
  | .s _ _ :: k => by simp only [KQ]; rw [SQ_not (fun l h => by cases h)]; exact KQ_ret P fin a w k
  | .inv _ :: k => by simp only [KQ]; exact KQ_ret P fin a w k
  | .lp _ _ :: k => by simp only [KQ]; rw [LQ_not (fun h => by cases h)]; exact KQ_ret P fin a w k
def TW (P : Program) (fin : Exit → Act → World → Prop) (n : Nat) (k : List KI) (f : Fr) (w : World) : Prop := ∀ a, Kn n f a → KQ P fin k .normal a w
section
variable {P : Program} {fin : Exit → Act → World → Prop} {n : Nat} {k : List KI} {f : Fr} {w : World}
theorem tw_keep (g : Fr) (hs : Fr.sub g f) (h : TW P fin n k g w) : TW P fin n k f w := fun a ha => h a (ha.sub hs)
theorem tw_seq {x y : Code} (h : TW P fin n (.c x :: .c y :: k) f w) : TW P fin n (.c (.seq x y) :: k) f w := by
  intro a ha
  have h' := h a ha
  simp only [KQ] at h' ⊢
  refine wp_seq (Code.wp_mono (fun e a w q => ?_) h')
  cases e <;> exact q
theorem tw_skip (h : TW P fin n k f w) : TW P fin n (.c .skip :: k) f w := fun a ha => wp_skip (h a ha)
theorem tw_label {l : Nat} (h : TW P fin n k f w) : TW P fin n (.c (.label l) :: k) f w := fun a ha => wp_label (h a ha)
theorem tw_block {id : Nat} {c : Code} (h : TW P fin n (.c c :: .b id :: k) f w) : TW P fin n (.c (.block id c) :: k) f w := by
  intro a ha
  have h' := h a ha
  simp only [KQ] at h' ⊢
  refine wp_block (Code.wp_mono (fun e a w q => ?_) h')
  cases e <;> exact q
theorem tw_b {id : Nat} (h : TW P fin n k f w) : TW P fin n (.b id :: k) f w := fun a ha => h a ha
theorem scope_run {body : Code} {Q : Exit → Act → World → Prop} : ∀ (m : Nat) (c : Code) (a : Act) (w : World), c.wp P (SQ P body Q m) a w → ∀ (b : Frame) (k : List Item) (cs : List Frame),
    ∃ e a' w', Q e a' w' ∧ Arrives P (lone (b.at a (.code c :: .inScope body :: k)) cs w) b k cs e a' w' := by
  intro m
  induction m with
  | zero =>
    intro c a w h b k cs
    obtain ⟨e, a₁, w₁, hq, harr⟩ := h b (.inScope body :: k) cs
    cases e with
    | normal => exact ⟨.normal, a₁, w₁, hq, Steps.trans harr (.one step_inScope)⟩
    | exit id => exact ⟨.exit id, a₁, w₁, hq, fun k' hk => harr k' (by simp [exitTo, hk])⟩
    | goto l => exact hq.elim
    | ret => exact ⟨_, a₁, w₁, hq, harr⟩
    | panic ch => exact ⟨_, a₁, w₁, hq, harr⟩
    | outgrown => exact ⟨_, a₁, w₁, hq, harr⟩
  | succ m ih =>
    intro c a w h b k cs
    obtain ⟨e, a₁, w₁, hq, harr⟩ := h b (.inScope body :: k) cs
    cases e with
    | normal => exact ⟨.normal, a₁, w₁, hq, Steps.trans harr (.one step_inScope)⟩
    | exit id => exact ⟨.exit id, a₁, w₁, hq, fun k' hk => harr k' (by simp [exitTo, hk])⟩
    | goto l =>
      obtain ⟨rest, hf, hr⟩ := hq
      obtain ⟨e₂, a₂, w₂, hq₂, harr₂⟩ := ih rest a₁ w₁ hr b k cs
      exact ⟨e₂, a₂, w₂, hq₂, .of_steps (harr _ (by simp [gotoIn, hf])) harr₂⟩
    | ret => exact ⟨_, a₁, w₁, hq, harr⟩
    | panic ch => exact ⟨_, a₁, w₁, hq, harr⟩
    | outgrown => exact ⟨_, a₁, w₁, hq, harr⟩
theorem tw_scope (m : Nat) {body : Code} (h : TW P fin n (.c body :: .s m body :: k) f w) : TW P fin n (.c (.scope body) :: k) f w := by
  intro a ha b k' cs
  have h' := h a ha
  simp only [KQ] at h'
  obtain ⟨e, a₁, w₁, hq, harr⟩ := scope_run m body a w h' b k' cs
  exact ⟨e, a₁, w₁, hq, .of_steps (.one step_scope) harr⟩
def gotoK (l : Nat) : List KI → Option (List KI)
  | [] => none
  | .s 0 _ :: _ => none
  | .s (m + 1) body :: k => match findLabel body l with
    | some rest => some (.c rest :: .s m body :: k)
    | none => none
  | _ :: k => gotoK l k
theorem KQ_goto {l : Nat} {a : Act} {w : World} : ∀ {k k' : List KI}, gotoK l k = some k' → KQ P fin k' .normal a w → KQ P fin k (.goto l) a w
  | [], _, h, _ => by cases h
  | .s 0 _ :: _, _, h, _ => by cases h
  | .s (m + 1) body :: k, k', h, hk => by
    simp only [gotoK] at h
    split at h
    · rename_i rest hf
      simp only [Option.some.injEq] at h
      subst h
      simp only [KQ] at hk ⊢
      refine ⟨rest, hf, ?_⟩
      exact Code.wp_mono (fun e a w q => by simpa only [KQ] using q) hk
    · cases h
  | .c _ :: k, k', h, hk => by simp only [gotoK] at h; simp only [KQ]; exact KQ_goto h hk
  | .b _ :: k, k', h, hk => by simp only [gotoK] at h; simp only [KQ]; exact KQ_goto h hk
  | .inv _ :: k, k', h, hk => by simp only [gotoK] at h; simp only [KQ]; exact KQ_goto h hk
  | .lp _ _ :: k, k', h, hk => by simp only [gotoK] at h; simp only [KQ]; rw [LQ_not (fun h => by cases h)]; exact KQ_goto h hk
theorem tw_goto {l : Nat} {k' : List KI} (he : gotoK l k = some k') (h : TW P fin n k' f w) : TW P fin n (.c (.goto l) :: k) f w :=
  fun a ha => wp_goto (KQ_goto he (h a ha))
def exitK (id : Nat) : List KI → Option (List KI)
  | [] => none
  | .b id' :: k => bif Nat.beq id' id then some k else exitK id k
  | _ :: k => exitK id k
theorem KQ_exit {id : Nat} {a : Act} {w : World} : ∀ {k k' : List KI}, exitK id k = some k' → KQ P fin k' .normal a w → KQ P fin k (.exit id) a w
  | [], _, h, _ => by cases h
  | .b id' :: k, k', h, hk => by
    simp only [exitK] at h
    simp only [KQ]
    by_cases e : Nat.beq id' id = true
    · rw [e] at h
      simp only [cond_true, Option.some.injEq] at h
      subst h
      rw [if_pos (Nat.eq_of_beq_eq_true e).symm]; exact hk
    · have e' : Nat.beq id' id = false := eq_false_of_ne_true e
      rw [e'] at h
      have hne : ¬ id = id' := fun hh => by subst hh; simp at e'
      rw [if_neg hne]
      exact KQ_exit h hk
  | .c _ :: k, k', h, hk => by simp only [exitK] at h; simp only [KQ]; exact KQ_exit h hk
  | .s _ _ :: k, k', h, hk => by simp only [exitK] at h; simp only [KQ]; rw [SQ_not (fun l h => by cases h)]; exact KQ_exit h hk
  | .inv _ :: k, k', h, hk => by simp only [exitK] at h; simp only [KQ]; exact KQ_exit h hk
  | .lp _ _ :: k, k', h, hk => by simp only [exitK] at h; simp only [KQ]; rw [LQ_not (fun h => by cases h)]; exact KQ_exit h hk
theorem tw_exit {id : Nat} {k' : List KI} (he : exitK id k = some k') (h : TW P fin n k' f w) : TW P fin n (.c (.exit id) :: k) f w :=
  fun a ha => wp_exit (KQ_exit he (h a ha))
theorem tw_cond {c : Operand} {x y : Code} {t : Bool} (hc : f.ev c = some (.bool t)) (ht : t = true → TW P fin n (.c x :: k) f w) (hf : t = false → TW P fin n (.c y :: k) f w) :
    TW P fin n (.c (.cond c x y) :: k) f w := fun a ha => wp_cond_split (ha.ev hc) (fun h => ht h a ha) (fun h => hf h a ha)
theorem tw_cond_false {c : Operand} {x y : Code} (hc : f.ev c = some (.bool false)) (h : TW P fin n (.c y :: k) f w) :
    TW P fin n (.c (.cond c x y) :: k) f w := fun a ha => wp_cond_false (ha.ev hc) (h a ha)
theorem tw_if {c : Operand} {x y : Code} {p : Prop} [Decidable p] (hc : f.ev c = some (.bool (decide p))) (ht : p → TW P fin n (.c x :: k) f w) (hf : ¬ p → TW P fin n (.c y :: k) f w) :
    TW P fin n (.c (.cond c x y) :: k) f w :=
  tw_cond hc (fun h => ht (of_decide_eq_true h)) (fun h => hf (of_decide_eq_false h))
theorem tw_ifT {c : Operand} {x y : Code} {p : Prop} [Decidable p] (hc : f.ev c = some (.bool (decide p))) (hp : p) (h : TW P fin n (.c x :: k) f w) : TW P fin n (.c (.cond c x y) :: k) f w :=
  tw_if hc (fun _ => h) (fun hn => absurd hp hn)
theorem tw_ifF {c : Operand} {x y : Code} {p : Prop} [Decidable p] (hc : f.ev c = some (.bool (decide p))) (hp : ¬ p) (h : TW P fin n (.c y :: k) f w) : TW P fin n (.c (.cond c x y) :: k) f w :=
  tw_if hc (fun hn => absurd hn hp) (fun _ => h)
theorem tw_condT {c : Operand} {x y : Code} {t : Bool} (hc : f.ev c = some (.bool t)) (ht : t = true) (h : TW P fin n (.c x :: k) f w) : TW P fin n (.c (.cond c x y) :: k) f w :=
  tw_cond hc (fun _ => h) (fun hf => by rw [ht] at hf; cases hf)
theorem tw_condF {c : Operand} {x y : Code} {t : Bool} (hc : f.ev c = some (.bool t)) (ht : t = false) (h : TW P fin n (.c y :: k) f w) : TW P fin n (.c (.cond c x y) :: k) f w :=
  tw_cond hc (fun hf => by rw [ht] at hf; cases hf) (fun _ => h)
theorem loop_run {body : Code} {Q : Exit → Act → World → Prop} : ∀ (m : Nat) (a : Act) (w : World), body.wp P (LQ P body Q m) a w → ∀ (b : Frame) (k : List Item) (cs : List Frame),
    ∃ e a' w', Q e a' w' ∧ Arrives P (lone (b.at a (.code body :: .inLoop body :: k)) cs w) b k cs e a' w' := by
  intro m
  induction m with
  | zero =>
    intro a w h b k cs
    obtain ⟨e, a₁, w₁, hq, harr⟩ := h b (.inLoop body :: k) cs
    cases e with
    | normal => exact hq.elim
    | exit id => exact ⟨_, a₁, w₁, hq, .pass (x := .inLoop body) rfl (fun _ _ => .inl (by simp)) harr⟩
    | goto l => exact ⟨_, a₁, w₁, hq, .pass (x := .inLoop body) rfl (fun _ _ => .inl (by simp)) harr⟩
    | ret => exact ⟨_, a₁, w₁, hq, .pass (x := .inLoop body) rfl (fun _ _ => .inl (by simp)) harr⟩
    | panic ch => exact ⟨_, a₁, w₁, hq, .pass (x := .inLoop body) rfl (fun _ _ => .inl (by simp)) harr⟩
    | outgrown => exact ⟨_, a₁, w₁, hq, .pass (x := .inLoop body) rfl (fun _ _ => .inl (by simp)) harr⟩
  | succ m ih =>
    intro a w h b k cs
    obtain ⟨e, a₁, w₁, hq, harr⟩ := h b (.inLoop body :: k) cs
    cases e with
    | normal =>
      obtain ⟨e₂, a₂, w₂, hq₂, harr₂⟩ := ih a₁ w₁ hq b k cs
      exact ⟨e₂, a₂, w₂, hq₂, .of_steps (Steps.trans harr (.one step_inLoop)) harr₂⟩
    | exit id => exact ⟨_, a₁, w₁, hq, .pass (x := .inLoop body) rfl (fun _ _ => .inl (by simp)) harr⟩
    | goto l => exact ⟨_, a₁, w₁, hq, .pass (x := .inLoop body) rfl (fun _ _ => .inl (by simp)) harr⟩
    | ret => exact ⟨_, a₁, w₁, hq, .pass (x := .inLoop body) rfl (fun _ _ => .inl (by simp)) harr⟩
    | panic ch => exact ⟨_, a₁, w₁, hq, .pass (x := .inLoop body) rfl (fun _ _ => .inl (by simp)) harr⟩
    | outgrown => exact ⟨_, a₁, w₁, hq, .pass (x := .inLoop body) rfl (fun _ _ => .inl (by simp)) harr⟩
theorem tw_unroll (m : Nat) {body : Code} (h : TW P fin n (.c body :: .lp m body :: k) f w) : TW P fin n (.c (.loop body) :: k) f w := by
  intro a ha b k' cs
  have h' := h a ha
  simp only [KQ] at h'
  obtain ⟨e, a₁, w₁, hq, harr⟩ := loop_run m a w h' b k' cs
  exact ⟨e, a₁, w₁, hq, .of_steps (.one step_loop) harr⟩
theorem tw_lp {m : Nat} {body : Code} (h : TW P fin n (.c body :: .lp m body :: k) f w) : TW P fin n (.lp (m + 1) body :: k) f w := by
  intro a ha
  have h' := h a ha
  simp only [KQ] at h' ⊢
  exact h'
theorem tw_loop {Γ : Type} {body : Code} (fr : Γ → Fr) (I : Γ → World → Prop) (μ : Γ → Nat) (γ₀ : Γ) (h0 : Fr.sub (fr γ₀) f) (hI : I γ₀ w)
    (round : ∀ γ w, I γ w → TW P fin n (.c body :: .inv (fun a' w' => ∃ γ', μ γ' < μ γ ∧ Kn n (fr γ') a' ∧ I γ' w') :: k) (fr γ) w) :
    TW P fin n (.c (.loop body) :: k) f w := by
  intro a ha
  simp only [KQ]
  refine wp_loop_ghost (fun m a w => ∃ γ, μ γ = m ∧ Kn n (fr γ) a ∧ I γ w) (μ γ₀) ⟨γ₀, rfl, ha.sub h0, hI⟩ ?_
  rintro m a w ⟨γ, rfl, hk, hi⟩
  have h' := round γ w hi a hk
  simp only [KQ] at h'
  refine Code.wp_mono (fun e a w q => ?_) h'
  cases e with
  | normal =>
    obtain ⟨γ', hlt, hk', hi'⟩ := q
    exact ⟨μ γ', hlt, γ', rfl, hk', hi'⟩
  | _ => exact q
theorem tw_inv {Γ : Type} {fr : Γ → Fr} {I : Γ → World → Prop} {μ : Γ → Nat} {m : Nat} (γ' : Γ) (hs : Fr.sub (fr γ') f) (hm : μ γ' < m) (hi : I γ' w) :
    TW P fin n (.inv (fun a' w' => ∃ γ', μ γ' < m ∧ Kn n (fr γ') a' ∧ I γ' w') :: k) f w :=
  fun _ ha => ⟨γ', hm, ha.sub hs, hi⟩
def OW (P : Program) (fin : Exit → Act → World → Prop) (n : Nat) (k : List KI) (ops : Array Oper) (l : List Oper) (f : Fr) (w : World) : Prop :=
  ∀ a, Kn n f a → wpList P ops (KQ P fin k) l a w
variable {ops : Array Oper} {l : List Oper}
theorem tw_region {id : Nat} {l : List Oper} (h : OW P fin n k l.toArray l f w) : TW P fin n (.c (.region id l.toArray false) :: k) f w :=
  fun a ha => wp_region_lit (h a ha)
theorem ow_nil (h : TW P fin n k f w) : OW P fin n k ops [] f w := fun a ha => wpList_nil (h a ha)
theorem ow_val {op : Op} {d : Nat} {ty : TypeId} {pos : String} {aft : Array Edge} (v : Value) (w' : World)
    (hr : ∀ a, Kn n f a → (execOp a.eval ⟨some d, op, ty, pos, aft, none⟩).run P w = .ok (.value v) w') (hd : d < n)
    (h : OW P fin n k ops l ((d, v) :: f) w') : OW P fin n k ops (⟨some d, op, ty, pos, aft, none⟩ :: l) f w := by
  intro a ha
  refine wpList_plain rfl fun K hK => ?_
  unfold Oper.wp
  rw [hr a ha]
  exact hK _ _ (h _ (ha.put hd v))
end
def CallOk (P : Program) (i : FuncId) : Prop := ∃ fn, P.funcs[i]? = some fn ∧ fn.body.isSome = true ∧ (fn.name == "runtime.NumGoroutine") = false
structure Rets (P : Program) (i : FuncId) (args : List Value) (w : World) (R : Value → World → Prop) : Prop where
  ok : CallOk P i
  calls : Calls P i args.toArray w fun e w' => ∃ v, e = .returned v ∧ R v w'
theorem Rets.mono {P : Program} {i : FuncId} {args : List Value} {w : World} {R R' : Value → World → Prop} (h : Rets P i args w R) (hr : ∀ v w', R v w' → R' v w') : Rets P i args w R' :=
  ⟨h.ok, Calls.mono h.calls fun _ w' ⟨v, he, hv⟩ => ⟨v, he, hr v w' hv⟩⟩
def argFr : Nat → List Value → Fr
  | _, [] => []
  | i, v :: r => (i, v) :: argFr (i + 1) r
theorem argFr_get : ∀ (vs : List Value) (i t : Nat) (v : Value), Fr.get (argFr i vs) t = some v → i ≤ t ∧ vs[t - i]? = some v
  | [], _, _, _, h => by cases h
  | u :: r, i, t, v, h => by
    simp only [argFr, Fr.get] at h
    by_cases e : Nat.beq i t = true
    · rw [e] at h
      simp only [cond_true, Option.some.injEq] at h
      have e' : i = t := Nat.eq_of_beq_eq_true e
      subst e' h
      simp
    · have e' : Nat.beq i t = false := eq_false_of_ne_true e
      rw [e'] at h
      have ih := argFr_get r (i + 1) t v h
      refine ⟨by omega, ?_⟩
      have : t - i = (t - (i + 1)) + 1 := by omega
      rw [this]
      simpa using ih.2
theorem rets_of_tw {P : Program} {i : FuncId} {fn : Func} {c : Code} {args : List Value} {w : World} {R : Value → World → Prop} {n : Nat}
    (hf : P.funcs[i]? = some fn) (hb : fn.body = some c) (hnm : (fn.name == "runtime.NumGoroutine") = false) (hn : fn.ntmps = n) (hle : Nat.ble args.length n = true)
    (h : ∀ fin, (∀ e a w, fin e a w → bodyPost P fn (fun e w' => ∃ v, e = .returned v ∧ R v w') e a w) → (∀ a w, (a.defers = [] ∧ ∃ v, (results fn a.tmps).run P w = .ok v w ∧ R v w) → fin .ret a w ∧ fin .normal a w) →
      TW P fin n [.c c] (argFr 0 args) w) : Rets P i args w R := by
  replace hle := Nat.le_of_ble_eq_true hle
  refine ⟨⟨fn, hf, by rw [hb]; rfl, hnm⟩, calls_of_wp hf hb ?_⟩
  have hk : Kn n (argFr 0 args) { tmps := args.toArray ++ Array.replicate (fn.ntmps - args.toArray.size) undef, defers := [] } := by
    refine ⟨by simp [hn]; omega, rfl, fun t v ht => ?_⟩
    have := (argFr_get args 0 t v ht).2
    simp only [Nat.sub_zero] at this
    have hlt : t < args.length := by
      rcases Nat.lt_or_ge t args.length with h | h
      · exact h
      · rw [List.getElem?_eq_none h] at this; cases this
    rw [Array.getD_eq_getD_getElem?, Array.getElem?_append_left (by simpa using hlt)]
    simp [this]
  have h' := h (bodyPost P fn (fun e w' => ∃ v, e = .returned v ∧ R v w')) (fun _ _ _ q => q)
    (fun a w ⟨hd, v, hr, hR⟩ => ⟨⟨hd, v, hr, v, rfl, hR⟩, ⟨hd, v, hr, v, rfl, hR⟩⟩) _ hk
  simp only [KQ] at h'
  refine Code.wp_mono (fun e a w q => ?_) h'
  cases e <;> exact q
section
variable {P : Program} {fin : Exit → Act → World → Prop} {n : Nat} {k : List KI} {f : Fr} {w : World} {fn : Func} {R : Value → World → Prop}
theorem tw_ret1 (hfin : ∀ a w, (a.defers = [] ∧ ∃ v, (results fn a.tmps).run P w = .ok v w ∧ R v w) → fin .ret a w ∧ fin .normal a w) {t : Nat} (hres : fn.results = #[.tmp t]) {v : Value} (hv : f.get t = some v) (hR : R v w) :
    TW P fin n (.c .ret :: k) f w := fun a ha => wp_ret (by
  rw [KQ_ret]
  refine (hfin a w ⟨ha.defers, _, results_tmp hres _ _ _, ?_⟩).1
  rw [ha.get t v hv]; exact hR)
theorem tw_ret2 (hfin : ∀ a w, (a.defers = [] ∧ ∃ v, (results fn a.tmps).run P w = .ok v w ∧ R v w) → fin .ret a w ∧ fin .normal a w) {t u : Nat} (hres : fn.results = #[.tmp t, .tmp u]) {v v' : Value} (hv : f.get t = some v) (hv' : f.get u = some v')
    (hR : R (.tuple #[v, v']) w) : TW P fin n (.c .ret :: k) f w := fun a ha => wp_ret (by
  rw [KQ_ret]
  refine (hfin a w ⟨ha.defers, _, results_tmp2 hres _ _ _, ?_⟩).1
  rw [ha.get t v hv, ha.get u v' hv']; exact hR)
theorem results_tmp3 {fn : Func} {t u s : Tmp} (h : fn.results = #[.tmp t, .tmp u, .tmp s]) (tmps : Array Value) (P : Program) (w : World) :
    (results fn tmps).run P w = .ok (.tuple #[tmps.getD t undef, tmps.getD u undef, tmps.getD s undef]) w := by
  simp [results, h]
theorem tw_ret3 (hfin : ∀ a w, (a.defers = [] ∧ ∃ v, (results fn a.tmps).run P w = .ok v w ∧ R v w) → fin .ret a w ∧ fin .normal a w) {t u s : Nat} (hres : fn.results = #[.tmp t, .tmp u, .tmp s]) {v v' v'' : Value} (hv : f.get t = some v) (hv' : f.get u = some v') (hv'' : f.get s = some v'')
    (hR : R (.tuple #[v, v', v'']) w) : TW P fin n (.c .ret :: k) f w := fun a ha => wp_ret (by
  rw [KQ_ret]
  refine (hfin a w ⟨ha.defers, _, results_tmp3 hres _ _ _, ?_⟩).1
  rw [ha.get t v hv, ha.get u v' hv', ha.get s v'' hv'']; exact hR)
end
end Go.Eng
namespace Go.Eng
open Go Go.IntWalk
structure Keep (S : List Nat) (w w' : World) : Prop where
  os : w'.os = w.os
  tape : w'.tape = w.tape
  output : w'.output = w.output
  size : w.heap.size ≤ w'.heap.size
  block : ∀ k, k < w.heap.size → k ∉ S → w'.heap[k]? = w.heap[k]?
theorem Keep.refl (S : List Nat) (w : World) : Keep S w w := ⟨rfl, rfl, rfl, Nat.le_refl _, fun _ _ _ => rfl⟩
theorem Keep.trans {S : List Nat} {a b c : World} (h : Keep S a b) (k : Keep S b c) : Keep S a c :=
  ⟨k.os.trans h.os, k.tape.trans h.tape, k.output.trans h.output, Nat.le_trans h.size k.size, fun i hi hs => (k.block i (Nat.lt_of_lt_of_le hi h.size) hs).trans (h.block i hi hs)⟩
theorem Keep.mono {S S' : List Nat} {w w' : World} (h : Keep S w w') (hs : ∀ x, x ∈ S → x ∈ S') : Keep S' w w' := ⟨h.os, h.tape, h.output, h.size, fun k hk hn => h.block k hk (fun hm => hn (hs k hm))⟩
theorem Keep.weak {S : List Nat} {w w' : World} (h : Keep [] w w') : Keep S w w' := h.mono (fun _ hx => by cases hx)
theorem Keep.below {S : List Nat} {w w' : World} {B : Nat} (h : Keep S w w') (hB : B ≤ w.heap.size) (hS : ∀ x, x ∈ S → B ≤ x) : RowKit.Below B w w' :=
  ⟨h.os, h.tape, h.output, h.size, fun k hk => h.block k (Nat.lt_of_lt_of_le hk hB) (fun hm => by have := hS k hm; omega)⟩
theorem Keep.below0 {w w' : World} (h : Keep [] w w') : RowKit.Below w.heap.size w w' := h.below (Nat.le_refl _) (fun x hx => by cases hx)
theorem Keep.new {S S' : List Nat} {w w1 w2 : World} (h : Keep S w w1) (k : Keep S' w1 w2) (hS : ∀ x, x ∈ S' → w.heap.size ≤ x ∨ x ∈ S) : Keep S w w2 :=
  ⟨k.os.trans h.os, k.tape.trans h.tape, k.output.trans h.output, Nat.le_trans h.size k.size, fun i hi hs =>
    (k.block i (Nat.lt_of_lt_of_le hi h.size) (fun hm => by rcases hS i hm with h1 | h1; · omega
                                                            · exact hs h1)).trans (h.block i hi hs)⟩
theorem keep_alloc (w : World) (o : Obj) : Keep [] w (w.alloc o) :=
  ⟨rfl, rfl, rfl, by simp, fun k hk _ => RowKit.Below.heap_alloc _ _ _ hk⟩
theorem keep_drew (w : World) : Keep [] w w.drew := ⟨rfl, rfl, rfl, Nat.le_refl _, fun _ _ _ => rfl⟩
theorem keep_setCell (w : World) (a : Addr) (v : Value) : Keep [a.block] w (w.setCell a v) :=
  ⟨rfl, rfl, rfl, by simp, fun k _ hn => RowKit.Below.heap_setCell _ _ _ _ (fun e => hn (by simp [e]))⟩
def Bk (w : World) (b : Nat) (T : TypeId) (cs : List Value) : Prop := w.heap[b]? = some (.cells cs.toArray T (0, 0))
theorem Bk.lt {w : World} {b : Nat} {T : TypeId} {cs : List Value} (h : Bk w b T cs) : b < w.heap.size := by
  rcases Nat.lt_or_ge b w.heap.size with h' | h'
  · exact h'
  · unfold Bk at h; rw [Array.getElem?_eq_none h'] at h; cases h
theorem Bk.keep {S : List Nat} {w w' : World} {b : Nat} {T : TypeId} {cs : List Value} (h : Bk w b T cs) (k : Keep S w w') (hn : b ∉ S) : Bk w' b T cs := by
  unfold Bk; rw [k.block b h.lt hn]; exact h
theorem Bk.cell {w : World} {b : Nat} {T : TypeId} {cs : List Value} (h : Bk w b T cs) (o : Nat) : w.cell? ⟨b, o, none⟩ = cs[o]? := by
  unfold Bk at h; simp [World.cell?, h]
theorem Bk.frozen {w : World} {b : Nat} {T : TypeId} {cs : List Value} (h : Bk w b T cs) (o : Nat) : w.frozen? ⟨b, o, none⟩ = false := by
  unfold Bk at h
  simp only [World.frozen?, h]
  simp
theorem bk_alloc (w : World) (T : TypeId) (cs : List Value) : Bk (w.alloc (.cells cs.toArray T)) w.heap.size T cs := by
  show (w.heap.push _)[w.heap.size]? = _
  simp
theorem Bk.set {w : World} {b : Nat} {T : TypeId} {cs : List Value} (h : Bk w b T cs) (o : Nat) (v : Value) : Bk (w.setCell ⟨b, o, none⟩ v) b T (cs.set o v) := by
  unfold Bk at h ⊢
  simp [World.setCell, Array.getElem?_modify, h]
def Row (w : World) (a : Addr) (cs : List Value) : Prop := ∀ j u, cs[j]? = some u → w.cell? (a.add j) = some u
theorem Row.keep {S : List Nat} {w w' : World} {a : Addr} {cs : List Value} (h : Row w a cs) (k : Keep S w w') (hn : a.block ∉ S) : Row w' a cs := by
  intro j u hj
  have h1 := h j u hj
  have hb : (a.add j).block = a.block := by unfold Addr.add; split <;> rfl
  rw [World.cell?_of_block (w := w)]
  · exact h1
  · exact k.block _ (World.block_lt_of_cell? _ _ h1) (by rw [hb]; exact hn)
theorem Row.drop {w : World} {a : Addr} {cs : List Value} (h : Row w a cs) (i : Nat) : Row w (a.add i) (cs.drop i) := by
  intro j u hj
  rw [List.getElem?_drop] at hj
  have h1 := h (i + j) u hj
  by_cases e : i = 0
  · subst e; simpa [Addr.add_zero', Addr.add] using h1
  · obtain ⟨b, o, s⟩ := a
    have e1 : (Addr.add ⟨b, o, s⟩ i) = ⟨b, o + i, none⟩ := by simp [Addr.add, e]
    have e2 : (Addr.add ⟨b, o, s⟩ (i + j)) = ⟨b, o + (i + j), none⟩ := by simp [Addr.add]; omega
    rw [e1]; rw [e2] at h1
    rw [Addr.add_lit, Nat.add_assoc]; exact h1
theorem Row.take {w : World} {a : Addr} {cs : List Value} (h : Row w a cs) (i : Nat) : Row w a (cs.take i) := by
  intro j u hj
  rw [List.getElem?_take] at hj
  split at hj
  · exact h j u hj
  · cases hj
theorem Bk.row {w : World} {b : Nat} {T : TypeId} {cs : List Value} (h : Bk w b T cs) : Row w ⟨b, 0, none⟩ cs := by
  intro j u hj
  rw [Addr.add_lit, Nat.zero_add, h.cell]; exact hj
def Rd (w : World) (s : Nat) (v : Value) (n : Nat) (cs : List Value) : Prop :=
  ∃ A c, v = .slice A n c ∧ n ≤ c ∧ c ≤ maxLen ∧ cs.length = n * s ∧ (A = none → c = 0) ∧ ∀ a, A = some a → Row w a cs
def vblk : Value → List Nat
  | .slice (some a) _ _ => [a.block]
  | .pointer (some a) => [a.block]
  | _ => []
def isNil : Value → Bool
  | .slice none _ _ => true
  | .pointer none => true
  | .nilIface => true
  | _ => false
def ea (v : Value) (i : Nat) : Addr :=
  match v with
  | .slice (some a) _ _ => a.add i
  | _ => ⟨0, 0, none⟩
def cut (v : Value) (l h s : Nat) : Value :=
  match v with
  | .slice a _ c => .slice (if c = l then a else a.map (·.add (l * s))) (h - l) (c - l)
  | v => v
theorem Rd.keep {S : List Nat} {w w' : World} {s n : Nat} {v : Value} {cs : List Value} (h : Rd w s v n cs) (k : Keep S w w') (hn : ∀ x, x ∈ vblk v → x ∉ S) : Rd w' s v n cs := by
  obtain ⟨A, c, rfl, h1, h2, h3, h4, h5⟩ := h
  exact ⟨A, c, rfl, h1, h2, h3, h4, fun a ha => (h5 a ha).keep k (hn _ (by subst ha; simp [vblk]))⟩
theorem Rd.keep0 {w w' : World} {s n : Nat} {v : Value} {cs : List Value} (h : Rd w s v n cs) (k : Keep [] w w') : Rd w' s v n cs := h.keep k (fun _ _ h => by cases h)
theorem Rd.len {w : World} {s n : Nat} {v : Value} {cs : List Value} (h : Rd w s v n cs) : cs.length = n * s := by
  obtain ⟨A, c, rfl, h1, h2, h3, h4, h5⟩ := h; exact h3
theorem Rd.le {w : World} {s n : Nat} {v : Value} {cs : List Value} (h : Rd w s v n cs) : n ≤ 9223372036854775807 := by
  obtain ⟨A, c, rfl, h1, h2, h3, h4, h5⟩ := h; unfold maxLen at h2; omega
theorem Rd.one {w : World} {s n : Nat} {v : Value} {cs : List Value} (h : Rd w s v n cs) : v.oneCell' = true := by
  obtain ⟨A, c, rfl, _⟩ := h; rfl
theorem Rd.cells {w : World} {s n : Nat} {v : Value} {cs : List Value} (h : Rd w s v n cs) : v.cells = #[v] := by
  obtain ⟨A, c, rfl, _⟩ := h; rfl
theorem Rd.cut {w : World} {s n : Nat} {v : Value} {cs : List Value} (h : Rd w s v n cs) {l hi : Nat} (h1 : l ≤ hi) (h2 : hi ≤ n) : Rd w s (cut v l hi s) (hi - l) ((cs.drop (l * s)).take ((hi - l) * s)) := by
  obtain ⟨A, c, rfl, h3, h4, h5, h6, h7⟩ := h
  refine ⟨_, _, rfl, by omega, by omega, ?_, ?_, ?_⟩
  · rw [List.length_take, List.length_drop, h5, ← Nat.sub_mul]
    exact Nat.min_eq_left (Nat.mul_le_mul_right _ (by omega))
  · intro h8
    split at h8
    · omega
    · cases A with
      | none => have := h6 rfl; omega
      | some a => cases h8
  · intro a ha
    split at ha
    · have e : hi - l = 0 := by omega
      rw [e, Nat.zero_mul, List.take_zero]
      intro j u hj; cases hj
    · cases A with
      | none => cases ha
      | some a0 =>
        simp only [Option.map_some, Option.some.injEq] at ha
        subst ha
        exact ((h7 a0 rfl).drop _).take _
theorem Rd.nil (w : World) (s : Nat) : Rd w s (.slice none 0 0) 0 [] := ⟨none, 0, rfl, Nat.le_refl _, Nat.zero_le _, by simp, fun _ => rfl, fun a h => by cases h⟩
theorem rd_of_own {w : World} {lo : Nat} {e : TypeId} {s n : Nat} {v : Value} {cs : List Value} (h : w.ownsRow lo e s v n cs) : Rd w s v n cs := by
  rcases h with ⟨hl, ⟨rfl, rfl⟩ | ⟨g, cap, cur, rfl, h1, h2, h3, h4, h5, h6⟩⟩
  · simp at hl; subst hl; exact Rd.nil w s
  · refine ⟨_, cap, rfl, h3, h4, hl, (fun h => by cases h), ?_⟩
    intro a ha
    simp only [Option.some.injEq] at ha
    subst ha
    have ho : w.ownsRow lo e s (.slice (some ⟨g, 0, none⟩) n cap) n cs := ⟨hl, .inr ⟨g, cap, cur, rfl, h1, h2, h3, h4, h5, h6⟩⟩
    exact ho.cells rfl
def Own (w : World) (lo : Nat) (e : TypeId) (s : Nat) (v : Value) (n : Nat) (cs : List Value) : Prop := w.ownsRow lo e s v n cs
theorem Own.rd {w : World} {lo : Nat} {e : TypeId} {s n : Nat} {v : Value} {cs : List Value} (h : Own w lo e s v n cs) : Rd w s v n cs := rd_of_own h
theorem own_nil (w : World) (lo : Nat) (e : TypeId) (s : Nat) : Own w lo e s (.slice none 0 0) 0 [] := World.ownsRow_nil w lo e s
theorem vblk_own {v : Value} {A : Option Addr} {n c : Nat} (h : v = .slice A n c) : vblk v = v.ownBlock.toList := by
  subst h; cases A <;> rfl
theorem Own.vblk {w : World} {lo : Nat} {e : TypeId} {s n : Nat} {v : Value} {cs : List Value} (h : Own w lo e s v n cs) : vblk v = v.ownBlock.toList := by
  obtain ⟨A, c, hv, _⟩ := h.rd; exact vblk_own hv
theorem Own.blk {w : World} {lo : Nat} {e : TypeId} {s n : Nat} {v : Value} {cs : List Value} (h : Own w lo e s v n cs) : ∀ x, x ∈ Eng.vblk v → lo ≤ x ∧ x < w.heap.size := by
  intro x hx
  rw [h.vblk] at hx
  simp only [Option.mem_toList] at hx
  exact World.ownsRow.lt h x hx
theorem Own.keep {S : List Nat} {w w' : World} {lo : Nat} {e : TypeId} {s n : Nat} {v : Value} {cs : List Value} (h : Own w lo e s v n cs) (k : Keep S w w') (hn : ∀ x, x ∈ Eng.vblk v → x ∉ S) : Own w' lo e s v n cs := by
  obtain ⟨hl, h⟩ := h
  refine ⟨hl, ?_⟩
  rcases h with h | ⟨g, cap, cur, rfl, h1, h2, r⟩
  · exact .inl h
  · exact .inr ⟨g, cap, cur, rfl, h1, by rw [k.block g (Bk.lt (cs := cur.toList) (T := e) (by simpa [Bk] using h2)) (hn g (by simp [Eng.vblk]))]; exact h2, r⟩
theorem Own.keep0 {w w' : World} {lo : Nat} {e : TypeId} {s n : Nat} {v : Value} {cs : List Value} (h : Own w lo e s v n cs) (k : Keep [] w w') : Own w' lo e s v n cs := h.keep k (fun _ _ h => by cases h)
theorem Own.lo {w : World} {lo lo' : Nat} {e : TypeId} {s n : Nat} {v : Value} {cs : List Value} (h : Own w lo e s v n cs) (hl : lo' ≤ lo) : Own w lo' e s v n cs := by
  obtain ⟨hl1, h⟩ := h
  refine ⟨hl1, ?_⟩
  rcases h with h | ⟨g, cap, cur, rfl, h1, r⟩
  · exact .inl h
  · exact .inr ⟨g, cap, cur, rfl, Nat.le_trans hl h1, r⟩
theorem own_of_bk {w : World} {b lo : Nat} {e : TypeId} {s n : Nat} {cs : List Value} (h : Bk w b e cs) (hl : lo ≤ b) (hn : cs.length = n * s) (hm : n ≤ maxLen) : Own w lo e s (.slice (some ⟨b, 0, none⟩) n n) n cs := by
  refine ⟨hn, .inr ⟨b, n, cs.toArray, rfl, hl, h, Nat.le_refl _, hm, by simpa using hn, ?_⟩⟩
  rw [← hn]; simp
def bv (xs : List UInt8) : List Value := xs.map fun b => .int .u8 (b.toNat : Int)
@[simp] theorem bv_length (xs : List UInt8) : (bv xs).length = xs.length := by simp [bv]
@[simp] theorem bv_append (xs ys : List UInt8) : bv (xs ++ ys) = bv xs ++ bv ys := by simp [bv]
theorem bv_drop (xs : List UInt8) (n : Nat) : (bv xs).drop n = bv (xs.drop n) := by simp [bv]
theorem bv_take (xs : List UInt8) (n : Nat) : (bv xs).take n = bv (xs.take n) := by simp [bv]
theorem bv_one (xs : List UInt8) : ∀ u ∈ bv xs, u.oneCell' = true := by
  intro u hu; simp only [bv, List.mem_map] at hu; obtain ⟨b, _, rfl⟩ := hu; rfl
def gb (xs : List UInt8) (i : Int) : Int := ((xs.getD i.toNat 0).toNat : Int)
theorem gb_range (xs : List UInt8) (i : Int) : 0 ≤ gb xs i ∧ gb xs i ≤ 255 := by
  unfold gb
  have := (xs.getD i.toNat 0).toNat_lt
  omega
theorem bv_get (xs : List UInt8) {i : Int} (h1 : i < xs.length) (h0 : 0 ≤ i) : (bv xs)[i.toNat]? = some (.int .u8 (gb xs i)) := by
  have : i.toNat < xs.length := by omega
  simp [bv, gb, this]
abbrev RdB (w : World) (v : Value) (xs : List UInt8) : Prop := Rd w 1 v xs.length (bv xs)
theorem Rd.cutB {w : World} {v : Value} {xs : List UInt8} (h : RdB w v xs) {l hi : Nat} (h1 : l ≤ hi) (h2 : hi ≤ xs.length) : RdB w (Eng.cut v l hi 1) ((xs.drop l).take (hi - l)) := by
  have h' := h.cut h1 h2
  rw [Nat.mul_one, Nat.mul_one, bv_drop, bv_take] at h'
  have e : ((xs.drop l).take (hi - l)).length = hi - l := by simp; omega
  unfold RdB
  rw [e]; exact h'
def tyB (P : Program) (t : TypeId) : Option (Option (List Value) × Nat × Nat) := (P.info? t).map fun i => (i.zero.map fun z => z.cells.toList, i.size, i.bytes)
def Ty (P : Program) (t : TypeId) (zs : List Value) (size bytes : Nat) : Prop := tyB P t = some (some zs, size, bytes)
theorem Ty.parts {P : Program} {t : TypeId} {zs : List Value} {size bytes : Nat} (h : Ty P t zs size bytes) : ∃ i z, P.info? t = some i ∧ i.zero = some z ∧ z.cells.toList = zs ∧ i.size = size ∧ i.bytes = bytes := by
  unfold Ty tyB at h
  cases hi : P.info? t with
  | none => rw [hi] at h; cases h
  | some i =>
    rw [hi] at h
    simp only [Option.map_some, Option.some.injEq, Prod.mk.injEq, Option.map_eq_some_iff] at h
    obtain ⟨⟨z, hz, hz'⟩, h2, h3⟩ := h
    exact ⟨i, z, rfl, hz, hz', h2, h3⟩
theorem Ty.sizeOf {P : Program} {t : TypeId} {zs : List Value} {size bytes : Nat} (h : Ty P t zs size bytes) (w : World) : (Go.sizeOf t).run P w = .ok size w := by
  obtain ⟨i, z, hi, hz, h1, h2, h3⟩ := h.parts
  simp [Go.sizeOf, typeInfo, hi, h2]
theorem Ty.zeroValue {P : Program} {t : TypeId} {zs : List Value} {size bytes : Nat} (h : Ty P t zs size bytes) (w : World) : ∃ z, z.cells.toList = zs ∧ (Go.zeroValue t).run P w = .ok z w := by
  obtain ⟨i, z, hi, hz, h1, h2, h3⟩ := h.parts
  exact ⟨z, h1, by simp [Go.zeroValue, typeInfo, hi, hz]⟩
def scB (P : Program) (t : TypeId) : Bool := match P.underlying t with | some (.struct _) => false | some (.array _ _) => false | some _ => true | none => false
theorem run_isAgg {P : Program} {t : TypeId} (h : scB P t = true) (w : World) : (isAgg t).run P w = .ok false w := by
  unfold scB at h
  cases hu : P.underlying t with
  | none => rw [hu] at h; cases h
  | some d =>
    rw [hu] at h
    unfold isAgg
    simp only [Sem.run_bind, run_underlying hu, Result.andThen_ok]
    cases d <;> first | rfl | cases h
def agB (P : Program) (t : TypeId) : Bool := match P.underlying t with | some (.struct _) => true | some (.array _ _) => true | _ => false
theorem run_isAgg' {P : Program} {t : TypeId} (h : agB P t = true) (w : World) : (isAgg t).run P w = .ok true w := by
  unfold agB at h
  cases hu : P.underlying t with
  | none => rw [hu] at h; cases h
  | some d =>
    rw [hu] at h
    unfold isAgg
    simp only [Sem.run_bind, run_underlying hu, Result.andThen_ok]
    cases d <;> first | rfl | cases h
theorem blt_lt {a b : Nat} (h : Nat.blt a b = true) : a < b := Nat.le_of_ble_eq_true h
def Gives (P : Program) (n : Nat) (f : Fr) (w : World) (op : Op) (ty : TypeId) (v : Value) (w' : World) : Prop :=
  ∀ a, Kn n f a → ∀ (dst : Option Tmp) (pos : String) (aft : Array Edge) (g : Option (Nat × Bool)), (execOp a.eval ⟨dst, op, ty, pos, aft, g⟩).run P w = .ok (.value v) w'
def Does (P : Program) (n : Nat) (f : Fr) (w : World) (op : Op) (ty : TypeId) (R : Value → World → Prop) : Prop :=
  ∀ a, Kn n f a → ∀ (dst : Option Tmp) (pos : String) (aft : Array Edge) (g : Option (Nat × Bool)) (K : Act → World → Prop) (Q : Exit → Act → World → Prop),
    (∀ v w', R v w' → K (a.put dst v) w') → Oper.wp P ⟨dst, op, ty, pos, aft, g⟩ a w K Q
section
variable {P : Program} {n : Nat} {f : Fr} {w : World} {ty : TypeId}
theorem Does.mono {op : Op} {R R' : Value → World → Prop} (h : Does P n f w op ty R) (hr : ∀ v w', R v w' → R' v w') : Does P n f w op ty R' :=
  fun a ha dst pos aft g K Q hK => h a ha dst pos aft g K Q (fun v w' hv => hK v w' (hr v w' hv))
variable {fin : Exit → Act → World → Prop} {k : List KI} {ops : Array Oper} {l : List Oper}
theorem ow_g {op : Op} {d : Nat} {pos : String} {aft : Array Edge} {v : Value} {w' : World} (hr : Gives P n f w op ty v w') (hd : Nat.blt d n = true)
    (h : OW P fin n k ops l ((d, v) :: f) w') : OW P fin n k ops (⟨some d, op, ty, pos, aft, none⟩ :: l) f w :=
  ow_val v w' (fun a ha => hr a ha _ _ _ _) (blt_lt hd) h
theorem ow_d {op : Op} {d : Nat} {pos : String} {aft : Array Edge} {R : Value → World → Prop} (hr : Does P n f w op ty R) (hd : Nat.blt d n = true)
    (h : ∀ v w', R v w' → OW P fin n k ops l ((d, v) :: f) w') : OW P fin n k ops (⟨some d, op, ty, pos, aft, none⟩ :: l) f w := by
  intro a ha
  refine wpList_plain rfl fun K hK => ?_
  exact hr a ha _ _ _ _ _ _ (fun v w' hv => hK _ _ (h v w' hv _ (ha.put (blt_lt hd) v)))
theorem ow_d0 {op : Op} {pos : String} {aft : Array Edge} {R : Value → World → Prop} (hr : Does P n f w op ty R)
    (h : ∀ v w', R v w' → OW P fin n k ops l f w') : OW P fin n k ops (⟨none, op, ty, pos, aft, none⟩ :: l) f w := by
  intro a ha
  refine wpList_plain rfl fun K hK => ?_
  exact hr a ha _ _ _ _ _ _ (fun v w' hv => hK _ _ (h v w' hv _ ha))
theorem g_mv {x : Operand} {v : Value} (hx : f.ev x = some v) : Gives P n f w (.move x) ty v w := by
  intro a ha dst pos aft g
  simp [execOp, ha.ev hx]
theorem g_as {x : Operand} {v : Value} (hx : f.ev x = some v) : Gives P n f w (.assign x) ty v w := by
  intro a ha dst pos aft g
  simp [execOp, ha.ev hx]
theorem run_bin {op : BinOp} {t u : TypeId} {x y : Operand} {vx vy v : Value} (hx : f.ev x = some vx) (hy : f.ev y = some vy)
    (hg : ∀ x y, (eqGuard op t x y vx vy).run P w = .ok () w) (hr : (binOp op t vx vy).run P w = .ok v w) : Gives P n f w (.binOp op t x y u) ty v w := by
  intro a ha dst pos aft g
  simp [execOp, ha.ev hx, ha.ev hy, hg, hr]
theorem guard_int {op : BinOp} {t : TypeId} {k : IntKind} {i : Int} {v : Value} : ∀ x y, (eqGuard op t x y (.int k i) v).run P w = .ok () w := fun x y => by rw [eqGuard_at_int]; rfl
theorem g_add {t u : TypeId} {x y : Operand} {i j : Int} (hx : f.ev x = some (.int .i64 i)) (hy : f.ev y = some (.int .i64 j)) (h : -9223372036854775808 ≤ i + j ∧ i + j ≤ 9223372036854775807) :
    Gives P n f w (.binOp .add t x y u) ty (.int .i64 (i + j)) w := run_bin hx hy guard_int (by rw [binOp_add]; simp [Op.intArith, i64_in _ h])
theorem g_sub {t u : TypeId} {x y : Operand} {i j : Int} (hx : f.ev x = some (.int .i64 i)) (hy : f.ev y = some (.int .i64 j)) (h : -9223372036854775808 ≤ i - j ∧ i - j ≤ 9223372036854775807) :
    Gives P n f w (.binOp .sub t x y u) ty (.int .i64 (i - j)) w := run_bin hx hy guard_int (by rw [binOp_sub]; simp [Op.intArith, i64_in _ h])
theorem g_mul {t u : TypeId} {x y : Operand} {i j : Int} (hx : f.ev x = some (.int .i64 i)) (hy : f.ev y = some (.int .i64 j)) (h : -9223372036854775808 ≤ i * j ∧ i * j ≤ 9223372036854775807) :
    Gives P n f w (.binOp .mul t x y u) ty (.int .i64 (i * j)) w := run_bin hx hy guard_int (by rw [binOp_mul]; simp [Op.intArith, i64_in _ h])
theorem g_addw {k : IntKind} {t u : TypeId} {x y : Operand} {i j : Int} (hx : f.ev x = some (.int k i)) (hy : f.ev y = some (.int k j)) :
    Gives P n f w (.binOp .add t x y u) ty (.int k (k.wrap (i + j))) w := run_bin hx hy guard_int (by rw [binOp_add]; simp [Op.intArith])
theorem g_subw {k : IntKind} {t u : TypeId} {x y : Operand} {i j : Int} (hx : f.ev x = some (.int k i)) (hy : f.ev y = some (.int k j)) :
    Gives P n f w (.binOp .sub t x y u) ty (.int k (k.wrap (i - j))) w := run_bin hx hy guard_int (by rw [binOp_sub]; simp [Op.intArith])
theorem g_mulw {k : IntKind} {t u : TypeId} {x y : Operand} {i j : Int} (hx : f.ev x = some (.int k i)) (hy : f.ev y = some (.int k j)) :
    Gives P n f w (.binOp .mul t x y u) ty (.int k (k.wrap (i * j))) w := run_bin hx hy guard_int (by rw [binOp_mul]; simp [Op.intArith])
theorem g_quo {t u : TypeId} {x y : Operand} {i j : Int} (hx : f.ev x = some (.int .i64 i)) (hy : f.ev y = some (.int .i64 j)) (h : 0 ≤ i ∧ i ≤ 9223372036854775807 ∧ 1 ≤ j) :
    Gives P n f w (.binOp .quo t x y u) ty (.int .i64 (i / j)) w := run_bin hx hy guard_int (by rw [binOp_quo]; simp [Op.intDiv, i64_quo _ _ h]; omega)
theorem g_rem {k : IntKind} {t u : TypeId} {x y : Operand} {i j : Int} (hx : f.ev x = some (.int k i)) (hy : f.ev y = some (.int k j)) (h : 0 ≤ i ∧ 1 ≤ j) :
    Gives P n f w (.binOp .rem t x y u) ty (.int k (i % j)) w := run_bin hx hy guard_int (by rw [binOp_rem]; simp [Op.intDiv, rem_in _ _ h.1]; omega)
theorem g_and {k : IntKind} {t u : TypeId} {x y : Operand} {i j : Int} (hx : f.ev x = some (.int k i)) (hy : f.ev y = some (.int k j)) :
    Gives P n f w (.binOp .and t x y u) ty (.int k (bits .and k i j)) w := run_bin hx hy guard_int (by rw [binOp_and, intBits_and]; rfl)
theorem g_or {k : IntKind} {t u : TypeId} {x y : Operand} {i j : Int} (hx : f.ev x = some (.int k i)) (hy : f.ev y = some (.int k j)) :
    Gives P n f w (.binOp .or t x y u) ty (.int k (bits .or k i j)) w := run_bin hx hy guard_int (by rw [binOp_or, intBits_or]; rfl)
theorem g_andNot {k : IntKind} {t u : TypeId} {x y : Operand} {i j : Int} (hx : f.ev x = some (.int k i)) (hy : f.ev y = some (.int k j)) :
    Gives P n f w (.binOp .andNot t x y u) ty (.int k (bits .andNot k i j)) w := run_bin hx hy guard_int (by rw [binOp_andNot, intBits_andNot]; rfl)
theorem g_shl {k k' : IntKind} {t u : TypeId} {x y : Operand} {i j : Int} (hx : f.ev x = some (.int k i)) (hy : f.ev y = some (.int k' j)) (h : 0 ≤ j ∧ j ≤ k.bits) :
    Gives P n f w (.binOp .shl t x y u) ty (.int k (k.wrap (i * 2 ^ j.toNat))) w := run_bin hx hy guard_int (by rw [binOp_shl, shift_shl k k' i j h.1 h.2]; rfl)
theorem g_shr {k k' : IntKind} {t u : TypeId} {x y : Operand} {i j : Int} (hx : f.ev x = some (.int k i)) (hy : f.ev y = some (.int k' j)) (h : 0 ≤ j ∧ j ≤ k.bits) :
    Gives P n f w (.binOp .shr t x y u) ty (.int k (i / 2 ^ j.toNat)) w := run_bin hx hy guard_int (by rw [binOp_shr, shift_shr k k' i j h.1 h.2]; rfl)
theorem g_eq {k : IntKind} {t u : TypeId} {x y : Operand} {i j : Int} (hx : f.ev x = some (.int k i)) (hy : f.ev y = some (.int k j)) :
    Gives P n f w (.binOp .eql t x y u) ty (.bool (decide (i = j))) w := run_bin hx hy guard_int (by rw [binOp_eql]; rfl)
theorem g_ne {k : IntKind} {t u : TypeId} {x y : Operand} {i j : Int} (hx : f.ev x = some (.int k i)) (hy : f.ev y = some (.int k j)) :
    Gives P n f w (.binOp .neq t x y u) ty (.bool (decide (i ≠ j))) w := run_bin hx hy guard_int (by rw [binOp_neq]; simp [bne]; by_cases h : i = j <;> simp [h])
theorem g_lt {k : IntKind} {t u : TypeId} {x y : Operand} {i j : Int} (hx : f.ev x = some (.int k i)) (hy : f.ev y = some (.int k j)) :
    Gives P n f w (.binOp .lss t x y u) ty (.bool (decide (i < j))) w := run_bin hx hy guard_int (by rw [binOp_lss]; rfl)
theorem g_gt {k : IntKind} {t u : TypeId} {x y : Operand} {i j : Int} (hx : f.ev x = some (.int k i)) (hy : f.ev y = some (.int k j)) :
    Gives P n f w (.binOp .gtr t x y u) ty (.bool (decide (j < i))) w := run_bin hx hy guard_int (by rw [binOp_gtr]; rfl)
theorem g_ge {k : IntKind} {t u : TypeId} {x y : Operand} {i j : Int} (hx : f.ev x = some (.int k i)) (hy : f.ev y = some (.int k j)) :
    Gives P n f w (.binOp .geq t x y u) ty (.bool (decide (j ≤ i))) w := run_bin hx hy guard_int (by rw [binOp_geq]; rfl)
theorem g_cv {s t : TypeId} {x : Operand} {k k' : IntKind} {i : Int} (hs : (P.underlying s).isSome = true) (ht : P.underlying t = some (.int k')) (hx : f.ev x = some (.int k i)) :
    Gives P n f w (.convert s t x) ty (.int k' (k'.wrap i)) w := by
  intro a ha dst pos aft g
  have h1 : P.underlying t = some (.int (P.intKind t)) := by unfold Program.intKind; rw [ht]
  have h2 : P.intKind t = k' := by unfold Program.intKind; rw [ht]
  have := run_convert_int (P := P) w s t k i hs h1
  rw [h2] at this
  simp [execOp, ha.ev hx, this]
theorem g_not {t : TypeId} {x : Operand} {b : Bool} (hx : f.ev x = some (.bool b)) : Gives P n f w (.unOp .not t x) ty (.bool (!b)) w := by
  intro a ha dst pos aft g
  simp [execOp, ha.ev hx, Op.unary]
theorem g_notd {t : TypeId} {x : Operand} {p : Prop} [Decidable p] (hx : f.ev x = some (.bool (decide p))) : Gives P n f w (.unOp .not t x) ty (.bool (decide (¬ p))) w := by
  have := g_not (P := P) (n := n) (w := w) (ty := ty) (t := t) hx
  rwa [← decide_not] at this
theorem g_len {x : Operand} {t e : TypeId} {s m : Nat} {v : Value} {cs : List Value} (ht : P.underlying t = some (.slice e)) (hx : f.ev x = some v) (hr : Rd w s v m cs) :
    Gives P n f w (.call { callee := .builtin .len, args := #[x], argTypes := #[t] }) ty (.int .i64 (m : Int)) w := by
  intro a ha dst pos aft g
  obtain ⟨A, c, rfl, _⟩ := hr
  simp [execOp, resolve, invoke, builtin, ha.ev hx, Builtin.len_, run_underlying ht, goInt]
theorem g_nilS {x : Operand} {t e u : TypeId} {s m : Nat} {v : Value} {cs : List Value} (ht : P.underlying t = some (.slice e)) (hx : f.ev x = some v) (hr : Rd w s v m cs) :
    Gives P n f w (.binOp .eql t x (.const (.slice none 0 0)) u) ty (.bool (isNil v)) w := by
  obtain ⟨A, c, rfl, _⟩ := hr
  refine run_bin hx rfl (fun x y => by rw [eqGuard_at_slice]; rfl) ?_
  rw [Lib.run_eql_slice_nil w t e A m c 0 0 ht]
  cases A <;> rfl
theorem g_ix {x y : Operand} {t e : TypeId} {zs : List Value} {s b m : Nat} {v : Value} {cs : List Value} {k : IntKind} {i : Int} (ht : P.underlying t = some (.slice e)) (he : Ty P e zs s b)
    (hx : f.ev x = some v) (hr : Rd w s v m cs) (hy : f.ev y = some (.int k i)) (h : 0 ≤ i ∧ i < m) :
    Gives P n f w (.indexAddr t x y) ty (.pointer (some (ea v (i.toNat * s)))) w := by
  intro a ha dst pos aft g
  obtain ⟨A, c, rfl, h1, h2, h3, h4, h5⟩ := hr
  cases A with
  | none => have := h4 rfl; omega
  | some a0 => simp [execOp, ha.ev hx, ha.ev hy, Instr.indexAt, asIntOf, run_underlying ht, he.sizeOf, h.1, h.2, ea]
theorem Rd.cell {w : World} {s m : Nat} {v : Value} {cs : List Value} (hr : Rd w s v m cs) {j : Nat} {u : Value} (hj : cs[j]? = some u) : w.cell? (ea v j) = some u := by
  obtain ⟨A, c, rfl, h1, h2, h3, h4, h5⟩ := hr
  cases A with
  | none =>
    have h6 := h4 rfl
    have : cs = [] := by apply List.eq_nil_of_length_eq_zero; rw [h3]; have : m = 0 := by omega
                         rw [this, Nat.zero_mul]
    subst this; cases hj
  | some a0 => exact h5 a0 rfl j u hj
theorem g_ld {x : Operand} {t : TypeId} {a0 : Addr} {u : Value} (ht : scB P t = true) (hx : f.ev x = some (.pointer (some a0))) (hc : w.cell? a0 = some u) :
    Gives P n f w (.load t x) ty u w := by
  intro a ha dst pos aft g
  simp [execOp, ha.ev hx, Instr.loadAt, Instr.sureAddr, loadVar, run_isAgg ht, hc]
theorem g_ldb {x : Operand} {t : TypeId} {b o : Nat} {T : TypeId} {cs : List Value} {u : Value} (ht : scB P t = true) (hx : f.ev x = some (.pointer (some ⟨b, o, none⟩))) (hb : Bk w b T cs) (hc : cs[o]? = some u) :
    Gives P n f w (.load t x) ty u w := g_ld ht hx (by rw [hb.cell]; exact hc)
theorem g_lde {x : Operand} {t : TypeId} {s m j : Nat} {v : Value} {cs : List Value} {u : Value} (ht : scB P t = true) (hx : f.ev x = some (.pointer (some (ea v j)))) (hr : Rd w s v m cs) (hc : cs[j]? = some u) :
    Gives P n f w (.load t x) ty u w := g_ld ht hx (hr.cell hc)
theorem g_ldB {x : Operand} {t : TypeId} {v : Value} {xs : List UInt8} {i : Int} (ht : scB P t = true) (hx : f.ev x = some (.pointer (some (ea v (i.toNat * 1))))) (hr : RdB w v xs) (h : 0 ≤ i ∧ i < xs.length) :
    Gives P n f w (.load t x) ty (.int .u8 (gb xs i)) w := g_lde ht hx hr (by rw [Nat.mul_one]; exact bv_get xs h.2 h.1)
theorem g_lda {x : Operand} {t : TypeId} {zs : List Value} {s b : Nat} {a0 : Addr} {cs : List Value} (ht : agB P t = true) (hs : Ty P t zs s b) (hx : f.ev x = some (.pointer (some a0))) (hr : Row w a0 cs) (hl : cs.length = s) :
    Gives P n f w (.load t x) ty (.agg cs.toArray) w := by
  intro a ha dst pos aft g
  subst hl
  simp [execOp, ha.ev hx, Instr.loadAt, Instr.sureAddr, loadVar, run_isAgg' ht, hs.sizeOf, run_loadCells_list w a0 cs hr]
theorem g_ldab {x : Operand} {t : TypeId} {zs : List Value} {s b : Nat} {g o : Nat} {T : TypeId} {cs cs' : List Value} (ht : agB P t = true) (hs : Ty P t zs s b) (hx : f.ev x = some (.pointer (some ⟨g, o, none⟩)))
    (hb : Bk w g T cs) (hc : (cs.drop o).take s = cs') (hl : cs'.length = s) :
    Gives P n f w (.load t x) ty (.agg cs'.toArray) w := by
  refine g_lda ht hs hx ?_ hl
  subst hc
  have := (hb.row.drop o).take s
  rwa [Addr.add_lit, Nat.zero_add] at this
theorem g_fa {x : Operand} {T : TypeId} {fs : Array Field} {i : Nat} {fd : Field} {b o : Nat} {zs : List Value} {s by_ : Nat} (hT : P.underlying T = some (.struct fs)) (hf : fs[i]? = some fd) (hs : Ty P fd.type zs s by_) (h0 : s ≠ 0)
    (hx : f.ev x = some (.pointer (some ⟨b, o, none⟩))) : Gives P n f w (.fieldAddr T x i) ty (.pointer (some ⟨b, o + fd.offset, none⟩)) w := by
  intro a ha dst pos aft g
  simp [execOp, ha.ev hx, Instr.fieldAt, run_underlying hT, hf, Instr.sureAddr, fieldPlace, hs.sizeOf, h0, Addr.add_lit]
theorem g_ext {x : Operand} {i : Nat} {vs : List Value} {v : Value} (hx : f.ev x = some (.tuple vs.toArray)) (hv : vs[i]? = some v) : Gives P n f w (.extract x i) ty v w := by
  intro a ha dst pos aft g
  simp [execOp, ha.ev hx, Instr.extract, hv]
end
end Go.Eng
namespace Go.Eng
open Go Go.IntWalk
section
variable {P : Program} {n : Nat} {f : Fr} {w : World} {ty : TypeId}
theorem d_box {T : TypeId} {x : Operand} {v : Value} {cs : List Value} (hx : f.ev x = some v) (hc : v.cells = cs.toArray) :
    Does P n f w (.box T x) ty (fun v' w' => ∃ b, v' = .pointer (some ⟨b, 0, none⟩) ∧ b = w.heap.size ∧ Bk w' b T cs ∧ Keep [] w w' ∧ w'.heap.size = w.heap.size + 1) := by
  intro a ha dst pos aft g K Q hK
  have hr : (execOp a.eval ⟨dst, .box T x, ty, pos, aft, g⟩).run P w = .ok (.value (.pointer (some ⟨w.heap.size, 0, none⟩))) (w.alloc (.cells cs.toArray T)) := by
    simp [execOp, ha.ev hx, Instr.box, newVar, newRow, hc]
  unfold Oper.wp
  rw [hr]
  exact hK _ _ ⟨_, rfl, rfl, bk_alloc _ _ _, keep_alloc _ _, by simp⟩
theorem d_alloc {T : TypeId} {zs : List Value} {s b : Nat} (hT : Ty P T zs s b) :
    Does P n f w (.alloc T) ty (fun v' w' => ∃ b, v' = .pointer (some ⟨b, 0, none⟩) ∧ b = w.heap.size ∧ Bk w' b T zs ∧ Keep [] w w' ∧ w'.heap.size = w.heap.size + 1) := by
  intro a ha dst pos aft g K Q hK
  obtain ⟨z, hz, hrz⟩ := hT.zeroValue w
  have hr : (execOp a.eval ⟨dst, .alloc T, ty, pos, aft, g⟩).run P w = .ok (.value (.pointer (some ⟨w.heap.size, 0, none⟩))) (w.alloc (.cells zs.toArray T)) := by
    subst hz
    simp [execOp, Instr.alloc, hrz, newVar, newRow]
  unfold Oper.wp
  rw [hr]
  exact hK _ _ ⟨_, rfl, rfl, bk_alloc _ _ _, keep_alloc _ _, by simp⟩
theorem d_st {t : TypeId} {x y : Operand} {b o : Nat} {T : TypeId} {cs zs : List Value} {v : Value} {by_ : Nat} (ht : Ty P t zs 1 by_) (hx : f.ev x = some (.pointer (some ⟨b, o, none⟩))) (hy : f.ev y = some v)
    (hv : v.oneCell' = true) (hb : Bk w b T cs) (ho0 : Nat.blt o cs.length = true) :
    Does P n f w (.store t x y) ty (fun _ w' => Bk w' b T (cs.set o v) ∧ Keep [b] w w' ∧ w'.heap.size = w.heap.size) := by
  intro a ha dst pos aft g K Q hK
  have ho : o < cs.length := blt_lt ho0
  have hvc : v.cells = #[v] := by cases v <;> first | rfl | cases hv
  have hr : (execOp a.eval ⟨dst, .store t x y, ty, pos, aft, g⟩).run P w = .ok .skip (w.setCell ⟨b, o, none⟩ v) := by
    have h1 : w.cell? ⟨b, o, none⟩ = some cs[o] := by rw [hb.cell, List.getElem?_eq_getElem ho]
    simp [execOp, ha.ev hx, ha.ev hy, Instr.storeAt, Instr.sureAddr, storeVar, ht.sizeOf, hvc, storeCells, run_store P w _ v _ hv, h1, hb.frozen, Addr.add_zero']
  unfold Oper.wp
  rw [hr]
  exact hK undef _ ⟨hb.set o v, keep_setCell w ⟨b, o, none⟩ v, by simp⟩
theorem setRow_keep (w : World) (g : Nat) (cs : Array Value) : Keep [g] w (w.setRow g cs) :=
  ⟨rfl, rfl, rfl, by simp [World.setRow], fun k _ hn => setRow_other w g k cs (fun e => hn (by simp [e]))⟩
theorem setRow_size (w : World) (g : Nat) (cs : Array Value) : (w.setRow g cs).heap.size = w.heap.size := by simp [World.setRow]
theorem d_sta {t : TypeId} {x y : Operand} {b o : Nat} {T : TypeId} {cs zs vs : List Value} {s by_ : Nat} (ht : Ty P t zs s by_) (hx : f.ev x = some (.pointer (some ⟨b, o, none⟩))) (hy : f.ev y = some (.agg vs.toArray))
    (hl : vs.length = s) (hv : ∀ v ∈ vs, v.oneCell' = true) (hb : Bk w b T cs) (ho0 : Nat.ble (o + s) cs.length = true) :
    Does P n f w (.store t x y) ty (fun _ w' => Bk w' b T (cs.take o ++ vs ++ cs.drop (o + s)) ∧ Keep [b] w w' ∧ w'.heap.size = w.heap.size) := by
  intro a ha dst pos aft g K Q hK
  subst hl
  have ho : o + vs.length ≤ cs.length := Nat.le_of_ble_eq_true ho0
  have hst := run_storeCells_at P b o T vs 0 cs.toArray w hb (by simpa using ho) hv
  have hr : (execOp a.eval ⟨dst, .store t x y, ty, pos, aft, g⟩).run P w = .ok .skip (w.setRow b (cs.take o ++ vs ++ cs.drop (o + vs.length)).toArray) := by
    simp only [Nat.add_zero] at hst
    simp [execOp, ha.ev hx, ha.ev hy, Instr.storeAt, Instr.sureAddr, storeVar, ht.sizeOf, Value.cells, hst]
  unfold Oper.wp
  rw [hr]
  exact hK undef _ ⟨setRow_heap w b _ _ T _ hb, setRow_keep _ _ _, setRow_size _ _ _⟩
theorem d_stw {t : TypeId} {x y : Operand} {b : Nat} {T : TypeId} {cs zs vs : List Value} {s by_ : Nat} (ht : Ty P t zs s by_) (hx : f.ev x = some (.pointer (some ⟨b, 0, none⟩))) (hy : f.ev y = some (.agg vs.toArray))
    (hl : vs.length = s) (hv : ∀ v ∈ vs, v.oneCell' = true) (hb : Bk w b T cs) (ho : cs.length = s) :
    Does P n f w (.store t x y) ty (fun _ w' => Bk w' b T vs ∧ Keep [b] w w' ∧ w'.heap.size = w.heap.size) :=
  (d_sta ht hx hy hl hv hb (Nat.ble_eq_true_of_le (by omega))).mono fun _ w' ⟨h1, h2, h3⟩ => ⟨by rwa [List.take_zero, List.nil_append, Nat.zero_add, List.drop_of_length_le (by omega), List.append_nil] at h1, h2, h3⟩
theorem Own.raw {lo : Nat} {e : TypeId} {s m : Nat} {v : Value} {cs : List Value} (h : Own w lo e s v m cs) (h0 : cs ≠ []) : ∃ g cap cur, v = .slice (some ⟨g, 0, none⟩) m cap ∧ lo ≤ g ∧ Bk w g e cur ∧ m ≤ cap ∧ cap ≤ maxLen ∧ cur.length = cap * s ∧ cur.take (m * s) = cs := by
  obtain ⟨hl, ⟨rfl, rfl⟩ | ⟨g, cap, cur, rfl, h1, h2, h3, h4, h5, h6⟩⟩ := h
  · rw [Nat.zero_mul] at hl; exact absurd (List.eq_nil_of_length_eq_zero hl) h0
  · exact ⟨g, cap, cur.toList, rfl, h1, by simpa [Bk] using h2, h3, h4, by simpa using h5, h6⟩
theorem d_sto {t e : TypeId} {x y : Operand} {lo s m j : Nat} {v u : Value} {cs zs : List Value} {by_ : Nat} (ht : Ty P t zs 1 by_) (hx : f.ev x = some (.pointer (some (ea v j)))) (hy : f.ev y = some u)
    (hu : u.oneCell' = true) (ho : Own w lo e s v m cs) (hj : j < cs.length) :
    Does P n f w (.store t x y) ty (fun _ w' => Own w' lo e s v m (cs.set j u) ∧ Keep (vblk v) w w' ∧ w'.heap.size = w.heap.size) := by
  obtain ⟨g, cap, cur, rfl, h1, h2, h3, h4, h5, h6⟩ := ho.raw (by intro h; subst h; simp at hj)
  have hj' : j < cur.length := by have := congrArg List.length h6; simp at this; omega
  have hea : ea (.slice (some ⟨g, 0, none⟩) m cap) j = ⟨g, j, none⟩ := by simp [ea, Addr.add_lit]
  rw [hea] at hx
  refine (d_st ht hx hy hu h2 (Nat.ble_eq_true_of_le hj')).mono fun _ w' ⟨k1, k2, k3⟩ => ⟨?_, k2, k3⟩
  refine ⟨by rw [List.length_set]; exact ho.1, .inr ⟨g, cap, (cur.set j u).toArray, rfl, h1, k1, h3, h4, by simpa using h5, ?_⟩⟩
  rw [← h6, List.take_set]
theorem le_maxLen {m : Nat} (h : (m : Int) ≤ 9223372036854775807) : m ≤ maxLen := by
  have h9 : (9223372036854775807 : Nat) = maxLen := by decide
  omega
theorem d_mk {t e : TypeId} {x y : Operand} {z : Value} {by_ : Nat} {i : Int} (ht : P.underlying t = some (.slice e)) (he : Ty P e [z] 1 by_) (hx : f.ev x = some (.int .i64 i)) (hy : f.ev y = some (.int .i64 i))
    (h0 : 0 ≤ i) (hb : i * by_ ≤ 281474976710656 ∧ i ≤ 9223372036854775807) :
    Does P n f w (.makeSlice t x y) ty (fun v' w' => Own w' w.heap.size e 1 v' i.toNat (List.replicate i.toNat z) ∧ isNil v' = false ∧ vblk v' = [w.heap.size] ∧ Keep [] w w' ∧ w'.heap.size = w.heap.size + 1) := by
  intro a ha dst pos aft g K Q hK
  obtain ⟨m, rfl⟩ := Int.eq_ofNat_of_zero_le h0
  obtain ⟨ti, z', hi, hz, hzc, hs, hby⟩ := he.parts
  have hb1 := hb.1
  have hb' : by_ * m ≤ 281474976710656 := by rw [← Int.natCast_mul] at hb1; rw [Nat.mul_comm]; omega
  have hz2 : z'.cells = #[z] := by rw [← Array.toList_inj]; simpa using hzc
  have hm : (m : Int) ≤ 9223372036854775807 := hb.2
  have hr := run_make (P := P) w t e ti z' ht hi hz .i64 .i64 (m : Int) (m : Int) (by omega) (Int.le_refl _) (by rw [hby, ← Int.natCast_mul]; omega) hm
  unfold Oper.wp
  have hrun : (execOp a.eval ⟨dst, .makeSlice t x y, ty, pos, aft, g⟩).run P w = .ok (.value (.slice (some ⟨w.heap.size, 0, none⟩) m m)) (w.alloc (.cells (List.replicate m z).toArray e)) := by
    have hmc : madeCells #[z] m = (List.replicate m z).toArray := by rw [← Array.toList_inj, toList_madeCells_one]
    simp only [execOp, ha.ev hx, ha.ev hy, Sem.run_bind, hr, Result.andThen_ok, Sem.run_pure, Int.toNat_natCast, hz2, hs, Nat.mul_one, hmc]
  rw [hrun]
  exact hK _ _ ⟨own_of_bk (bk_alloc _ _ _) (Nat.le_refl _) (by rw [List.length_replicate, Nat.mul_one]; rfl) (le_maxLen hm), rfl, rfl, keep_alloc _ _, by simp⟩
theorem bv_zeros (m : Nat) : List.replicate m (Value.int .u8 0) = bv (List.replicate m 0) := by simp [bv]
def enum : Nat → List Operand → List (Nat × Operand)
  | _, [] => []
  | i, x :: r => (i, x) :: enum (i + 1) r
def enumV : Nat → List Value → List (Nat × Value)
  | _, [] => []
  | i, x :: r => (i, x) :: enumV (i + 1) r
theorem evs_enum {a : Act} (ha : Kn n f a) : ∀ {xs : List Operand} {vs : List Value} (i : Nat), f.evs xs = some vs → (enum i xs).map (fun p => (p.1, a.eval p.2)) = enumV i vs
  | [], vs, i, h => by simp only [Fr.evs, Option.some.injEq] at h; subst h; rfl
  | x :: r, vs, i, h => by
    unfold Fr.evs at h
    split at h
    · rename_i v hv
      split at h
      · rename_i us hu
        simp only [Option.some.injEq] at h
        subst h
        simp only [enum, enumV, List.map_cons, ha.ev hv, evs_enum ha (i + 1) hu]
      · cases h
    · cases h
theorem fold_set (o : Nat) : ∀ (vs : List Value) (j : Nat) (cur : List Value), o + j + vs.length ≤ cur.length →
    (vs.zipIdx j).foldl (fun (cs : Array Value) (c : Value × Nat) => cs.setIfInBounds (o + c.2) c.1) cur.toArray = (cur.take (o + j) ++ vs ++ cur.drop (o + j + vs.length)).toArray
  | [], j, cur, h => by simp
  | v :: r, j, cur, h => by
    simp only [List.zipIdx_cons, List.foldl_cons, List.setIfInBounds_toArray]
    rw [fold_set o r (j + 1) (cur.set (o + j) v) (by simp at h ⊢; omega)]
    congr 1
    simp only [List.length_cons] at h
    have hlt : o + j < cur.length := by omega
    have e1 : o + (j + 1) = (o + j) + 1 := by omega
    rw [e1, List.take_succ_eq_append_getElem (by simpa using hlt), List.drop_set_of_lt (by omega), List.take_set]
    have e2 : (cur.take (o + j)).set (o + j) v = cur.take (o + j) := by
      apply List.set_eq_of_length_le; simp; omega
    rw [e2]
    simp [Nat.add_assoc, Nat.add_comm 1]
theorem fill_all (s : Nat) : ∀ (vs : List Value) (i : Nat) (cur : List Value), (∀ v ∈ vs, v.cells.size = s) → (i + vs.length) * s ≤ cur.length → 
    Instr.fill (fun i => some (i * s, s)) cur.toArray (enumV i vs) = some (cur.take (i * s) ++ vs.flatMap (fun v => v.cells.toList) ++ cur.drop ((i + vs.length) * s)).toArray
  | [], i, cur, _, h => by simp [enumV, Instr.fill]
  | v :: r, i, cur, hv, h => by
    have hs := hv v (by simp)
    simp only [List.length_cons] at h
    have h2 : i * s + s ≤ cur.length := by
      have : (i + 1) * s ≤ (i + (r.length + 1)) * s := Nat.mul_le_mul_right _ (by omega)
      rw [Nat.add_mul, Nat.one_mul] at this; omega
    simp only [enumV, Instr.fill, hs]
    rw [if_neg (by simp; omega)]
    have hz := fold_set (i * s) v.cells.toList 0 cur (by simp [hs]; omega)
    have hz' : (v.cells.zipIdx.foldl (fun (cs : Array Value) (c : Value × Nat) => cs.setIfInBounds (i * s + c.2) c.1) cur.toArray) = (cur.take (i * s) ++ v.cells.toList ++ cur.drop (i * s + s)).toArray := by
      rw [← Array.foldl_toList, Array.toList_zipIdx]
      simpa [hs] using hz
    rw [hz']
    have hl : (cur.take (i * s) ++ v.cells.toList ++ cur.drop (i * s + s)).length = cur.length := by simp [hs]; omega
    have := fill_all s r (i + 1) (cur.take (i * s) ++ v.cells.toList ++ cur.drop (i * s + s)) (fun u hu => hv u (by simp [hu])) (by rw [hl]; rw [show i + 1 + r.length = i + (r.length + 1) from by omega]; exact h)
    rw [this]
    congr 2
    have e1 : (i + 1) * s = (cur.take (i * s) ++ v.cells.toList).length := by simp [hs, Nat.add_mul]; omega
    have e2 : (cur.take (i * s) ++ v.cells.toList ++ cur.drop (i * s + s)).take ((i + 1) * s) = cur.take (i * s) ++ v.cells.toList := by rw [e1, List.take_left']; rfl
    have e3 : (i + 1 + r.length) * s = (cur.take (i * s) ++ v.cells.toList).length + r.length * s := by rw [← e1, Nat.add_mul]
    have e4 : (cur.take (i * s) ++ v.cells.toList ++ cur.drop (i * s + s)).drop ((i + 1 + r.length) * s) = cur.drop ((i + (r.length + 1)) * s) := by
      rw [e3, List.drop_append]
      simp only [Nat.add_sub_cancel_left, List.drop_drop]
      rw [List.drop_of_length_le (by omega), List.nil_append]
      congr 1
      simp only [Nat.add_mul, Nat.one_mul]; omega
    rw [e2, e4]
    simp
theorem flat_length (s : Nat) : ∀ (vs : List Value), (∀ v ∈ vs, v.cells.size = s) → (vs.flatMap fun v => v.cells.toList).length = vs.length * s
  | [], _ => by simp
  | v :: r, h => by
    have h1 := h v (by simp)
    have h2 := flat_length s r (fun u hu => h u (by simp [hu]))
    rw [List.flatMap_cons, List.length_append, h2, Array.length_toList, h1, List.length_cons, Nat.add_mul, Nat.one_mul]; omega
theorem d_bs {t e : TypeId} {m s by_ : Nat} {parts : Array (Nat × Operand)} {xs : List Operand} {vs zs : List Value} (ht : P.underlying t = some (.slice e)) (he : Ty P e zs s by_) (hs0 : 0 < s)
    (hp : parts.toList = enum 0 xs) (hx : f.evs xs = some vs) (hm : vs.length = m) (hv : ∀ v ∈ vs, v.cells.size = s) (hlim : m * s ≤ 16777216) :
    Does P n f w (.buildSlice t m parts) ty (fun v' w' => Own w' w.heap.size e s v' m (vs.flatMap fun v => v.cells.toList) ∧ isNil v' = false ∧ vblk v' = [w.heap.size] ∧ Keep [] w w' ∧ w'.heap.size = w.heap.size + 1) := by
  intro a ha dst pos aft g K Q hK
  have hmaxl : m ≤ maxLen := by
    have h9 : (9223372036854775807 : Nat) = maxLen := by decide
    have := Nat.le_mul_of_pos_right m hs0
    omega
  obtain ⟨ti, z, hi, hz, hzc, hs, hby⟩ := he.parts
  have hpv : (parts.map fun p => (p.1, a.eval p.2)) = (enumV 0 vs).toArray := by
    rw [← Array.toList_inj]; simp [hp, evs_enum ha 0 hx]
  have hfl : (vs.flatMap fun v => v.cells.toList).length = m * s := by
    rw [← hm]; exact flat_length s vs hv
  have hr : (execOp a.eval ⟨dst, .buildSlice t m parts, ty, pos, aft, g⟩).run P w = .ok (.value (.slice (some ⟨w.heap.size, 0, none⟩) m m)) (w.alloc (.cells (vs.flatMap fun v => v.cells.toList).toArray e)) := by
    have hlim' : ¬ (2 ^ 24 < m * s) := by omega
    by_cases h0 : m * s = 0
    · have hfl0 : (vs.flatMap fun v => v.cells.toList) = [] := List.eq_nil_of_length_eq_zero (by omega)
      have hfill := fill_all s vs 0 [] hv (by rw [Nat.zero_add, hm]; omega)
      have hz9 : (Array.map (fun _ => (default : Value)) (Array.range 0)) = #[] := by simp
      simp only [execOp, hpv, Instr.buildSlice, Sem.run_bind, run_underlying ht, Result.andThen_ok, he.sizeOf, gt_iff_lt, h0, if_true, Sem.run_pure]
      simp
      rw [hz9, hfill]
      simp [hfl0, newRow]
    · obtain ⟨z2, hz2, hrz⟩ := he.zeroValue w
      have hfill := fill_all s vs 0 ((Array.range (m * s)).map (fun j => z2.cells[j % z2.cells.size]!)).toList hv (by rw [Nat.zero_add, hm]; simp)
      simp only [Array.toArray_toList] at hfill
      simp only [execOp, hpv, Instr.buildSlice, Sem.run_bind, run_underlying ht, Result.andThen_ok, he.sizeOf, gt_iff_lt, if_neg hlim', if_neg h0, hrz, Sem.run_pure]
      have hd : (List.drop (m * s) (List.map (fun x => z2.cells[x % z2.cells.size]!) (List.range (m * s)))) = [] := List.drop_of_length_le (by simp)
      simp [hfill, hm, newRow, hd]
  unfold Oper.wp
  rw [hr]
  exact hK _ _ ⟨own_of_bk (bk_alloc _ _ _) (Nat.le_refl _) hfl hmaxl, rfl, rfl, keep_alloc _ _, by simp⟩
end
end Go.Eng
namespace Go.Eng
open Go Go.IntWalk
section
variable {P : Program} {n : Nat} {f : Fr} {w : World} {ty : TypeId}
theorem bk_alloc' (w : World) (T : TypeId) (cs : Array Value) : (w.alloc (.cells cs T)).heap[w.heap.size]? = some (.cells cs T (0, 0)) := by
  show (w.heap.push _)[w.heap.size]? = _
  simp
theorem nsc_fits {need old by_ : Nat} (h : old < need) (hb : need * by_ ≤ 140737488355328) : Builtin.nextslicecap need old * by_ ≤ 281474976710656 := growslice_fits h hb
theorem run_append_same (t ty e : TypeId) (i : TypeInfo) (ht : P.underlying t = some (.slice e)) (hi : P.info? e = some i) (base : Option Addr) (l c : Nat) (hlc : l ≤ c) (u : Option Addr) (c' : Nat) :
    (Builtin.append_ #[t, t] ty #[.slice base l c, .slice u 0 c']).run P w = .ok (.slice base l c) w := by
  cases u <;> cases base <;> simp [Builtin.append_, run_underlying ht, sizeOf, typeInfo, hi, Builtin.lenOf, Builtin.firstCells, hlc, loadCells, loadCellsFrom, storeCells]
theorem run_app {t ty e : TypeId} {lo s m m' by_ : Nat} {v u : Value} {cs ys zs : List Value} (ht : P.underlying t = some (.slice e)) (he : Ty P e zs s by_) (hs0 : 0 < s) (hzs : zs.length = s)
    (ho : Own w lo e s v m cs) (hr : Rd w s u m' ys) (h1 : ∀ c ∈ ys, c.oneCell' = true) (hb : (m + m') * by_ ≤ 140737488355328 ∧ m + m' ≤ 9223372036854775807) (hl : lo ≤ w.heap.size) :
    ∃ v' w', (Builtin.append_ #[t, t] ty #[v, u]).run P w = .ok v' w' ∧ Own w' lo e s v' (m + m') (cs ++ ys) ∧ Keep (vblk v) w w' ∧ (∀ x, x ∈ vblk v' → x ∈ vblk v ∨ w.heap.size ≤ x) ∧ (∃ A c, v' = .slice A (m + m') c) ∧ isNil v' = (isNil v && decide (m' = 0)) := by
  obtain ⟨ti, z, hi, hz, hzc, hsz, hby⟩ := he.parts
  subst hsz hby
  have h63 : (((m + m' : Nat)) : Int) ≤ 9223372036854775807 := by have := hb.2; omega
  have hml : m + m' ≤ maxLen := le_maxLen h63
  have hcs : (cs ++ ys).length = (m + m') * ti.size := by rw [List.length_append, ho.1, hr.len, Nat.add_mul]
  have hzl : z.cells.size = ti.size := by rw [← Array.length_toList, hzc, hzs]
  obtain ⟨A', c', rfl, h2, h3, h4, h5, h6⟩ := hr
  by_cases hm0 : m' = 0
  · subst hm0
    have hys : ys = [] := List.eq_nil_of_length_eq_zero (by rw [h4, Nat.zero_mul])
    subst hys
    have ho' := ho
    obtain ⟨hl1, ⟨rfl, rfl⟩ | ⟨g, cap, cur, rfl, q1, q2, q3, q4, q5, q6⟩⟩ := ho
    · exact ⟨_, w, run_append_same t ty e ti ht hi none 0 0 (Nat.le_refl _) A' c', by simpa using ho', Keep.refl _ _, (fun x hx => by cases hx), ⟨none, 0, rfl⟩, rfl⟩
    · exact ⟨_, w, run_append_same t ty e ti ht hi _ m cap q3 A' c', by simpa using ho', Keep.refl _ _, fun x hx => .inl hx, ⟨_, cap, rfl⟩, rfl⟩
  · cases A' with
    | none => have := h5 rfl; omega
    | some a' =>
      have hrow := h6 a' rfl
      have hdec : decide (m' = 0) = false := by simp [hm0]
      obtain ⟨hl1, ⟨rfl, rfl⟩ | ⟨g, cap, cur, rfl, q1, q2, q3, q4, q5, q6⟩⟩ := ho
      · have hcs0 : cs = [] := List.eq_nil_of_length_eq_zero (by rw [hl1, Nat.zero_mul])
        subst hcs0
        have hfit := nsc_fits (old := 0) (need := m') (by_ := ti.bytes) (by omega) (by have := hb.1; rwa [Nat.zero_add] at this)
        rw [nextslicecap_zero (by omega)] at hfit
        have hrun := run_append_nil (P := P) w t ty e ti z ht hi hz a' m' c' ys h4 hrow (by omega) (by simpa using h63) hfit
        refine ⟨_, _, hrun, ⟨hcs, .inr ⟨w.heap.size, grownCap w m' 0 e, _, by simp, hl, bk_alloc' w.drew e _, ?_, ?_, ?_, ?_⟩⟩, (keep_drew w).weak.trans (keep_alloc _ _).weak, ?_, ⟨_, _, by rw [Nat.zero_add]⟩, ?_⟩
        · rw [Nat.zero_add]; exact grownCap_ge w m' 0 e
        · exact grownCap_le_maxLen w m' 0 e (by omega)
        · have := grownCap_ge w m' 0 e
          rw [Array.size_append, List.size_toArray, h4, size_zeroCells, hzl, ← Nat.add_mul]; congr 1; omega
        · simp only [Nat.zero_add, ← h4, List.nil_append]; simp
        · intro x hx; simp only [vblk, List.mem_singleton] at hx; subst hx; exact .inr (Nat.le_refl _)
        · simp [isNil, hm0]
      · have holds : ∀ j u, cs[j]? = some u → w.cell? ((⟨g, 0, none⟩ : Addr).add j) = some u := by
          have ho' : w.ownsRow lo e ti.size (.slice (some ⟨g, 0, none⟩) m cap) m cs := ⟨hl1, .inr ⟨g, cap, cur, rfl, q1, q2, q3, q4, q5, q6⟩⟩
          exact ho'.cells rfl
        by_cases hroom : m + m' ≤ cap
        · have hrun := run_append_room (P := P) w t ty e ti ht hi g m cap cur q2 a' m' c' ys h4 hrow h1 hroom (by rw [h4, q5, ← Nat.add_mul]; exact Nat.mul_le_mul_right _ hroom)
          have hlen : (cur.toList.take (m * ti.size)).length = m * ti.size := by rw [q6]; exact hl1
          refine ⟨_, _, hrun, ⟨hcs, .inr ⟨g, cap, _, rfl, q1, setRow_heap w g cur _ e _ q2, hroom, q4, ?_, ?_⟩⟩, setRow_keep _ _ _, fun x hx => .inl hx, ⟨_, _, rfl⟩, ?_⟩
          · have h7 : (m + m') * ti.size ≤ cap * ti.size := Nat.mul_le_mul_right _ hroom
            rw [Nat.add_mul] at h7
            simp only [List.size_toArray, List.length_append, hlen, h4, List.length_drop, Array.length_toList, q5]; omega
          · rw [q6, ← hcs, List.toList_toArray, List.take_left']; rfl
          · simp [isNil]
        · have hrun := run_append_grow (P := P) w t ty e ti z ht hi hz ⟨g, 0, none⟩ m cap cs hl1 holds a' m' c' ys h4 hrow (by omega) h63 (nsc_fits (by omega) hb.1)
          refine ⟨_, _, hrun, ⟨hcs, .inr ⟨w.heap.size, grownCap w (m + m') cap e, _, rfl, hl, bk_alloc' w.drew e _, ?_, ?_, ?_, ?_⟩⟩, (keep_drew w).weak.trans (keep_alloc _ _).weak, ?_, ⟨_, _, rfl⟩, ?_⟩
          · exact grownCap_ge w (m + m') cap e
          · exact grownCap_le_maxLen w (m + m') cap e hml
          · have := grownCap_ge w (m + m') cap e
            have e1 : grownCap w (m + m') cap e = (m + m') + (grownCap w (m + m') cap e - (m + m')) := by omega
            rw [Array.size_append, Array.size_append, List.size_toArray, List.size_toArray, h4, hl1, size_zeroCells, hzl, ← Nat.add_mul, ← Nat.add_mul]; congr 1; omega
          · rw [← hcs, Array.toList_append, List.take_append_of_le_length (by simp)]; simp only [Array.toList_append]; exact List.take_length
          · intro x hx; simp only [vblk, List.mem_singleton] at hx; subst hx; exact .inr (Nat.le_refl _)
          · simp [isNil]
theorem d_app {t e : TypeId} {x y : Operand} {lo s m m' by_ : Nat} {v u : Value} {cs ys zs : List Value} (ht : P.underlying t = some (.slice e)) (he : Ty P e zs s by_) (hs0 : 0 < s) (hzs : zs.length = s)
    (hx : f.ev x = some v) (ho : Own w lo e s v m cs) (hy : f.ev y = some u) (hr : Rd w s u m' ys) (h1 : ∀ c ∈ ys, c.oneCell' = true) (hb : (m + m') * by_ ≤ 140737488355328 ∧ m + m' ≤ 9223372036854775807) (hl : lo ≤ w.heap.size) :
    Does P n f w (.call { callee := .builtin .append, args := #[x, y], argTypes := #[t, t] }) ty
      (fun v' w' => Own w' lo e s v' (m + m') (cs ++ ys) ∧ Keep (vblk v) w w' ∧ (∀ x, x ∈ vblk v' → x ∈ vblk v ∨ w.heap.size ≤ x) ∧ isNil v' = (isNil v && decide (m' = 0))) := by
  intro a ha dst pos aft g K Q hK
  obtain ⟨v', w', hrun, h2, h3, h4, _, h5⟩ := run_app (ty := ty) ht he hs0 hzs ho hr h1 hb hl
  have hr : (execOp a.eval ⟨dst, .call { callee := .builtin .append, args := #[x, y], argTypes := #[t, t] }, ty, pos, aft, g⟩).run P w = .ok (.value v') w' := by
    simp [execOp, resolve, invoke, builtin, ha.ev hx, ha.ev hy, hrun]
  unfold Oper.wp
  rw [hr]
  exact hK _ _ ⟨h2, h3, h4, h5⟩
theorem d_appB {t e : TypeId} {x y : Operand} {lo : Nat} {v u : Value} {xs ys : List UInt8} {m : Nat} (ht : P.underlying t = some (.slice e)) (he : Ty P e [.int .u8 0] 1 1)
    (hx : f.ev x = some v) (ho : Own w lo e 1 v m (bv xs)) (hy : f.ev y = some u) (hr : RdB w u ys) (hb : m + ys.length ≤ 140737488355328) (hl : lo ≤ w.heap.size) :
    Does P n f w (.call { callee := .builtin .append, args := #[x, y], argTypes := #[t, t] }) ty
      (fun v' w' => Own w' lo e 1 v' (m + ys.length) (bv (xs ++ ys)) ∧ Keep (vblk v) w w' ∧ (∀ x, x ∈ vblk v' → x ∈ vblk v ∨ w.heap.size ≤ x) ∧ isNil v' = (isNil v && decide (ys.length = 0))) :=
  (d_app ht he (by decide) rfl hx ho hy hr (bv_one ys) ⟨by omega, by omega⟩ hl).mono fun v' w' ⟨h1, h2, h3, h4⟩ => ⟨by rw [bv_append]; exact h1, h2, h3, h4⟩
theorem d_cp {t u e : TypeId} {x y : Operand} {lo s m m' by_ : Nat} {v v' : Value} {cs ys zs : List Value} (ht : P.underlying t = some (.slice e)) (he : Ty P e zs 1 by_) (hx : f.ev x = some v) (ho : Own w lo e 1 v m cs)
    (hy : f.ev y = some v') (hr : Rd w 1 v' m' ys) (h1 : ∀ c ∈ ys, c.oneCell' = true) (hs : s = min m' m) :
    Does P n f w (.call { callee := .builtin .copy, args := #[x, y], argTypes := #[t, u] }) ty
      (fun r w' => r = .int .i64 (s : Int) ∧ Own w' lo e 1 v m (ys.take s ++ cs.drop s) ∧ Keep (vblk v) w w' ∧ w'.heap.size = w.heap.size) := by
  intro a ha dst pos aft g K Q hK
  obtain ⟨ti, z, hi, hz, hzc, hsz, hby⟩ := he.parts
  have hsz' : (P.info? e).map (·.size) = some 1 := by rw [hi]; simp [hsz]
  obtain ⟨A', c', rfl, h2, h3, h4, h5, h6⟩ := hr
  have ho' := ho
  have hlc := ho.1
  rw [Nat.mul_one] at h4 hlc
  by_cases hs0 : s = 0
  · have hn : Nat.min m' m = 0 := by show min m' m = 0; omega
    obtain ⟨A, c, hv, _⟩ := ho.rd
    subst hv
    have hrun := run_copy_none (P := P) w t u ty e A A' m c m' c' ht hsz' hn
    have hr : (execOp a.eval ⟨dst, .call { callee := .builtin .copy, args := #[x, y], argTypes := #[t, u] }, ty, pos, aft, g⟩).run P w = .ok (.value (goInt 0)) w := by
      simp [execOp, resolve, invoke, builtin, ha.ev hx, ha.ev hy, hrun]
    unfold Oper.wp
    rw [hr]
    subst hs0
    exact hK _ _ ⟨rfl, by simpa using ho', Keep.refl _ _, rfl⟩
  · have hne : cs ≠ [] := fun h => by subst h; simp at hlc; omega
    obtain ⟨gb, cap, cur, rfl, q1, q2, q3, q4, q5, q6⟩ := ho.raw hne
    rw [Nat.mul_one] at q5 q6
    cases A' with
    | none => have := h5 rfl; omega
    | some a' =>
      have hlen : (ys.take s).length = Nat.min m' m := by show _ = min m' m; rw [List.length_take, h4]; omega
      have hrun := run_copy_row (P := P) w t u ty e gb 0 m cap a' m' c' cur.toArray e (ys.take s) ht hsz' q2 hlen ((h6 a' rfl).take s) (by rw [hlen, List.size_toArray]; show 0 + min m' m ≤ _; omega) (fun c hc => h1 c (List.mem_of_mem_take hc))
      have hl2 : (ys.take s).length = s := by rw [hlen]; exact hs.symm
      rw [hl2] at hrun
      have hr : (execOp a.eval ⟨dst, .call { callee := .builtin .copy, args := #[x, y], argTypes := #[t, u] }, ty, pos, aft, g⟩).run P w = .ok (.value (goInt s)) (w.setRow gb (cur.take 0 ++ ys.take s ++ cur.drop (0 + s)).toArray) := by
        simp [execOp, resolve, invoke, builtin, ha.ev hx, ha.ev hy, hrun]
      unfold Oper.wp
      rw [hr]
      refine hK _ _ ⟨rfl, ⟨by rw [List.length_append, hl2, List.length_drop, hlc]; omega, .inr ⟨gb, cap, _, rfl, q1, setRow_heap w gb _ _ e _ q2, q3, q4, ?_, ?_⟩⟩, setRow_keep _ _ _, setRow_size _ _ _⟩
      · simp only [List.size_toArray, List.length_append, List.length_take, List.length_drop, h4]; omega
      · rw [← q6]
        simp only [List.take_zero, List.nil_append, Nat.zero_add, Nat.mul_one]
        rw [List.take_append, hl2, List.take_of_length_le (by rw [hl2]; omega), List.drop_take]
theorem d_call {i : FuncId} {args : Array Operand} {ats : Array TypeId} {vs : List Value} {R : Value → World → Prop} (hx : f.evs args.toList = some vs) (hc : Rets P i vs w R) :
    Does P n f w (.call { callee := .value (.func i), args := args, argTypes := ats }) ty R := by
  intro a ha dst pos aft g K Q hK
  obtain ⟨⟨fn, hf, hb, hnm⟩, hcalls⟩ := hc
  have hb' : fn.body.isNone = false := by cases h : fn.body <;> simp_all
  have hm : args.map a.eval = vs.toArray := by rw [← Array.toList_inj]; simp [ha.evs hx]
  have hr : (execOp a.eval ⟨dst, .call { callee := .value (.func i), args := args, argTypes := ats }, ty, pos, aft, g⟩).run P w = .ok (.enter i vs.toArray) w := by
    have hcf : (callFunc i vs.toArray).run P w = .ok (.enter i vs.toArray) w := by
      simp only [callFunc, Sem.run_bind, run_program, Result.andThen_ok, hf, hnm, Bool.false_eq_true, if_false, hb', Sem.run_pure]
    simp [execOp, resolve, Deferred.ofValue, Act.eval, invoke, hm, hcf]
  unfold Oper.wp
  rw [hr]
  exact Calls.mono hcalls fun e w' ⟨v, he, hv⟩ => by subst he; exact hK v w' hv
end
end Go.Eng
namespace Go.Eng
open Go Go.IntWalk
def gv (c : Bool) (v : Value) : Value := bif c then v else undef
theorem gv_true {c : Bool} {v : Value} (h : c = true) : gv c v = v := by subst h; rfl
theorem gv_false {c : Bool} {v : Value} (h : c = false) : gv c v = undef := by subst h; rfl
def Und (c : Bool) (f : Fr) (t : Nat) (v : Value) : Prop := ∃ u, f.get t = some u ∧ (c = true → u = v)
def UndF (c : Bool) : Fr → Fr → Prop
  | [], _ => True
  | (t, v) :: g, f => Und c f t v ∧ UndF c g f
theorem und0 {c : Bool} {f : Fr} {t : Nat} {v : Value} (h : f.get t = some v) : Und c f t v := ⟨v, h, fun _ => rfl⟩
theorem und1 {c : Bool} {f : Fr} {t : Nat} {v : Value} (h : f.get t = some (gv c v)) : Und c f t v := ⟨_, h, fun hc => gv_true hc⟩
theorem Kn.undF {n : Nat} {f : Fr} {a : Act} {c : Bool} (h : Kn n f a) (hc : c = true) : ∀ {g : Fr}, UndF c g f → Kn n g a
  | [], _ => ⟨h.size, h.defers, fun t v ht => by cases ht⟩
  | (k, u) :: g, hs => by
    obtain ⟨⟨u', h1, h1'⟩, h2⟩ := hs
    have h1'' := h1' hc
    subst h1''
    have ih := Kn.undF h hc h2
    refine ⟨h.size, h.defers, fun t v ht => ?_⟩
    simp only [Fr.get] at ht
    by_cases e : Nat.beq k t = true
    · rw [e] at ht
      simp only [cond_true, Option.some.injEq] at ht
      have e' : k = t := Nat.eq_of_beq_eq_true e
      subst e' ht
      exact h.get _ _ h1
    · have e' : Nat.beq k t = false := eq_false_of_ne_true e
      rw [e'] at ht
      exact ih.get t v ht
section
variable {P : Program} {n : Nat} {f : Fr} {w : World} {ty : TypeId} {fin : Exit → Act → World → Prop} {k : List KI} {ops : Array Oper} {l : List Oper}
def Grd (n : Nat) (ops : Array Oper) (f : Fr) (j : Nat) (want c : Bool) : Prop := ∀ a, Kn n f a → (yielded ops a.tmps j == some want) = c
theorem yielded_of {a : Act} {j d : Nat} {oj : Oper} {v : Value} (ha : Kn n f a) (hj : ops[j]? = some oj) (hd : oj.dst = some d) (hf : f.get d = some v) :
    yielded ops a.tmps j = match v with | .bool b => some b | _ => none := by
  have hv := ha.get d _ hf
  simp only [yielded, hj, hd, Option.bind_some]
  rcases Nat.lt_or_ge d a.tmps.size with h | h
  · rw [Array.getD_eq_getD_getElem?, Array.getElem?_eq_getElem h, Option.getD_some] at hv
    rw [Array.getElem?_eq_getElem h, hv]
    cases v <;> rfl
  · rw [Array.getD_eq_getD_getElem?, Array.getElem?_eq_none h] at hv
    rw [Array.getElem?_eq_none h]
    subst hv; rfl
theorem grd1 {j d : Nat} {oj : Oper} {b want c : Bool} (hj : ops[j]? = some oj) (hd : oj.dst = some d) (hf : f.get d = some (.bool b)) (hc : c = (b == want)) : Grd n ops f j want c := by
  intro a ha
  rw [yielded_of ha hj hd hf, hc]
  cases b <;> cases want <;> rfl
theorem grd2 {j d : Nat} {oj : Oper} {b want c c' : Bool} (hj : ops[j]? = some oj) (hd : oj.dst = some d) (hf : f.get d = some (gv c' (.bool b))) (hc : c = (c' && (b == want))) : Grd n ops f j want c := by
  intro a ha
  rw [yielded_of ha hj hd hf, hc]
  cases c' <;> cases b <;> cases want <;> rfl
theorem ow_grp (d : Nat) (want : Bool) {b : Bool} (_hf : f.get d = some (.bool b)) (h : ∀ c, c = (b == want) → OW P fin n k ops l f w) : OW P fin n k ops l f w := h _ rfl
theorem ow_grp2 (d : Nat) (want : Bool) {b c' : Bool} (_hf : f.get d = some (gv c' (.bool b))) (h : ∀ c, c = (c' && (b == want)) → OW P fin n k ops l f w) : OW P fin n k ops l f w := h _ rfl
theorem ow_gg (f1 : Fr) {op : Op} {d : Nat} {pos : String} {aft : Array Edge} {j : Nat} {want c : Bool} {v : Value} (hG : Grd n ops f j want c) (hs : UndF c f1 f) (hr : c = true → Gives P n f1 w op ty v w) (hd : Nat.blt d n = true)
    (h : OW P fin n k ops l ((d, gv c v) :: f) w) : OW P fin n k ops (⟨some d, op, ty, pos, aft, some (j, want)⟩ :: l) f w := by
  intro a ha
  have hg := hG a ha
  refine wpList_step fun K hK => ?_
  have hwt : Region.wanted ⟨some d, op, ty, pos, aft, some (j, want)⟩ (yielded ops a.tmps) = c := hg
  rw [hwt]
  cases hc : c with
  | true =>
    rw [if_pos rfl]
    unfold Oper.wp
    rw [hr hc a (ha.undF hc hs)]
    have := h _ (ha.put (blt_lt hd) (gv c v))
    rw [gv_true hc] at this
    exact hK _ _ this
  | false =>
    rw [if_neg (by simp)]
    have := h _ (ha.put (blt_lt hd) (gv c v))
    rw [gv_false hc] at this
    exact hK _ _ this
theorem ow_gy {op : Op} {d : Nat} {pos : String} {aft : Array Edge} {j : Nat} {want : Bool} {v : Value} (hG : Grd n ops f j want true) (hr : Gives P n f w op ty v w) (hd : Nat.blt d n = true)
    (h : OW P fin n k ops l ((d, v) :: f) w) : OW P fin n k ops (⟨some d, op, ty, pos, aft, some (j, want)⟩ :: l) f w := by
  intro a ha
  refine wpList_step fun K hK => ?_
  have hwt : Region.wanted ⟨some d, op, ty, pos, aft, some (j, want)⟩ (yielded ops a.tmps) = true := hG a ha
  rw [hwt, if_pos rfl]
  unfold Oper.wp
  rw [hr a ha]
  exact hK _ _ (h _ (ha.put (blt_lt hd) v))
theorem ow_gd (f1 : Fr) {op : Op} {d : Nat} {pos : String} {aft : Array Edge} {j : Nat} {want c : Bool} {R : Value → World → Prop} (hG : Grd n ops f j want c) (hs : UndF c f1 f) (hr : c = true → Does P n f1 w op ty R) (hd : Nat.blt d n = true)
    (h : ∀ v w', (c = true → R v w') → (c = false → w' = w) → OW P fin n k ops l ((d, gv c v) :: f) w') : OW P fin n k ops (⟨some d, op, ty, pos, aft, some (j, want)⟩ :: l) f w := by
  intro a ha
  have hg := hG a ha
  refine wpList_step fun K hK => ?_
  have hwt : Region.wanted ⟨some d, op, ty, pos, aft, some (j, want)⟩ (yielded ops a.tmps) = c := hg
  rw [hwt]
  cases hc : c with
  | true =>
    rw [if_pos rfl]
    refine hr hc a (ha.undF hc hs) _ _ _ _ _ _ (fun v w' hv => hK _ _ ?_)
    have := h v w' (fun _ => hv) (fun h => by rw [hc] at h; cases h) _ (ha.put (blt_lt hd) (gv c v))
    rwa [gv_true hc] at this
  | false =>
    rw [if_neg (by simp)]
    have := h undef w (fun h => by rw [hc] at h; cases h) (fun _ => rfl) _ (ha.put (blt_lt hd) (gv c undef))
    rw [gv_false hc] at this
    exact hK _ _ this
theorem g_pand {x y : Operand} {b b2 c : Bool} (hx : f.ev x = some (.bool b)) (hy : f.ev y = some (gv c (.bool b2))) (hc : c = (b == true)) : Gives P n f w (.pick x y (.const (.bool false))) ty (.bool (b && b2)) w := by
  intro a ha dst pos aft g
  have h1 := ha.ev hx
  have h2 := ha.ev hy
  have h3 : a.eval (.const (.bool false)) = .bool false := rfl
  subst hc
  cases b <;> simp [execOp, h1, h2, h3, asBool, gv]
theorem g_por {x y : Operand} {b b2 c : Bool} (hx : f.ev x = some (.bool b)) (hy : f.ev y = some (gv c (.bool b2))) (hc : c = (b == false)) : Gives P n f w (.pick x (.const (.bool true)) y) ty (.bool (b || b2)) w := by
  intro a ha dst pos aft g
  have h1 := ha.ev hx
  have h2 := ha.ev hy
  have h3 : a.eval (.const (.bool true)) = .bool true := rfl
  subst hc
  cases b <;> simp [execOp, h1, h2, h3, asBool, gv]
theorem ow_pand {x y : Tmp} {d : Nat} {pos : String} {aft : Array Edge} {j : Nat} {want c c2 b b2 : Bool} (hG : Grd n ops f j want c) (hx : Und c f x (.bool b)) (hy : f.get y = some (gv c2 (.bool b2))) (hc2 : c2 = (c && (b == true)))
    (hd : Nat.blt d n = true) (h : OW P fin n k ops l ((d, gv c (.bool (b && b2))) :: f) w) : OW P fin n k ops (⟨some d, .pick (.tmp x) (.tmp y) (.const (.bool false)), ty, pos, aft, some (j, want)⟩ :: l) f w := by
  cases c with
  | false => exact ow_gg (c := false) (v := .bool (b && b2)) [] hG trivial (fun h => by cases h) hd h
  | true =>
    have hc2' : c2 = (b == true) := by rw [hc2, Bool.true_and]
    obtain ⟨u, hu, hu'⟩ := hx
    have hu2 := hu' rfl
    subst hu2
    exact ow_gy hG (g_pand (x := .tmp x) (y := .tmp y) hu hy hc2') hd h
end
def dstOf (l : List Oper) (i : Nat) : Nat := ((l[i]?).bind (·.dst)).getD 0
def hasDst (l : List Oper) (i : Nat) : Bool := ((l[i]?).bind (·.dst)).isSome
def drawOk (n : Nat) (l : List Oper) : Bool :=
  (List.range l.length).all fun i => match l[i]? with
    | none => false
    | some o => Nat.blt (dstOf l i) n && o.after.toList.all (fun e => !Region.binds .any e || Nat.blt e.on i) && (!o.dst.isSome || (List.range l.length).all fun j => i == j || dstOf l i != dstOf l j || !hasDst l j)
def depOk (l : List Oper) (i : Nat) (deps : List Nat) : Bool := deps.all fun j => match l[i]? with
    | none => false
    | some o => hasDst l j && o.after.toList.any fun e => e.on == j && Region.binds .any e
def freeOk (l : List Oper) (f0 : Fr) : Bool := f0.all fun p => (List.range l.length).all fun j => dstOf l j != p.1 || !hasDst l j
def depFr (l : List Oper) (vs : Nat → Value) : List Nat → Fr
  | [] => []
  | j :: r => (dstOf l j, vs j) :: depFr l vs r
section
variable {P : Program} {n : Nat}
def updL (L : Nat → Bool) (i : Nat) : Nat → Bool := fun j => bif Nat.beq j i then true else L j
def ObJ (P : Program) (n : Nat) (l : List Oper) (f0 : Fr) (Rl : World → World → Prop) (J : (Nat → Bool) → World → Prop) (S : Nat → Value → World → Prop) (w0 : World) (i : Nat) (o : Oper) : Prop :=
  ∃ deps : List Nat, depOk l i deps = true ∧ ∀ L w, L i = false → (∀ j, j ∈ deps → L j = true) → Rl w0 w → J L w → ∀ vs : Nat → Value, (∀ j, j ∈ deps → S j (vs j) w) →
    ∃ c : Bool, (∀ a, Kn n (depFr l vs deps ++ f0) a → Region.wanted o (yielded l.toArray a.tmps) = c) ∧
      (c = true → Does P n (depFr l vs deps ++ f0) w o.op o.type (fun v w' => Rl w w' ∧ S i v w' ∧ J (updL L i) w')) ∧ (c = false → S i undef w ∧ J (updL L i) w)
def ObsJ (P : Program) (n : Nat) (l : List Oper) (f0 : Fr) (Rl : World → World → Prop) (J : (Nat → Bool) → World → Prop) (S : Nat → Value → World → Prop) (w0 : World) : Nat → List Oper → Prop
  | _, [] => True
  | i, o :: r => ObJ P n l f0 Rl J S w0 i o ∧ ObsJ P n l f0 Rl J S w0 (i + 1) r
theorem ObsJ.get {l : List Oper} {f0 : Fr} {Rl : World → World → Prop} {J : (Nat → Bool) → World → Prop} {S : Nat → Value → World → Prop} {w0 : World} : ∀ {r : List Oper} {i : Nat}, ObsJ P n l f0 Rl J S w0 i r → ∀ (k : Nat) (o : Oper), r[k]? = some o → ObJ P n l f0 Rl J S w0 (i + k) o
  | [], _, _, k, o, h => by simp at h
  | x :: r, i, ⟨h1, h2⟩, 0, o, h => by simp at h; subst h; exact h1
  | x :: r, i, ⟨h1, h2⟩, k + 1, o, h => by
    have := ObsJ.get h2 k o (by simpa using h)
    rwa [Nat.add_assoc, Nat.add_comm 1 k] at this
theorem Kn.app {f g : Fr} {a : Act} (h1 : ∀ p, p ∈ g → a.tmps.getD p.1 undef = p.2) (h2 : Kn n f a) : Kn n (g ++ f) a := by
  induction g with
  | nil => exact h2
  | cons p r ih =>
    obtain ⟨k, u⟩ := p
    have ih' := ih (fun p hp => h1 p (List.mem_cons_of_mem _ hp))
    refine ⟨h2.size, h2.defers, fun t v ht => ?_⟩
    simp only [List.cons_append, Fr.get] at ht
    by_cases e : Nat.beq k t = true
    · rw [e] at ht
      simp only [cond_true, Option.some.injEq] at ht
      have e' : k = t := Nat.eq_of_beq_eq_true e
      subst e' ht
      exact h1 (k, u) (List.mem_cons_self ..)
    · have e' : Nat.beq k t = false := eq_false_of_ne_true e
      rw [e'] at ht
      exact ih'.get t v ht
theorem Kn.putOther {f : Fr} {a : Act} {d : Nat} (h : Kn n f a) (hd : f.get d = none) (v : Value) : Kn n f (a.put (some d) v) := by
  refine ⟨by simp [Act.put, h.size], by simp [Act.put, h.defers], fun t u ht => ?_⟩
  have hne : d ≠ t := fun e => by subst e; rw [hd] at ht; cases ht
  rw [← h.get t u ht]
  simp only [Act.put, Array.getD_eq_getD_getElem?]
  rw [Array.getElem?_setIfInBounds_ne hne]
theorem get_none_of_free {l : List Oper} {i : Nat} (hi : i < l.length) (hd : hasDst l i = true) : ∀ {f0 : Fr}, freeOk l f0 = true → f0.get (dstOf l i) = none
  | [], _ => rfl
  | (k, u) :: r, h => by
    simp only [freeOk, List.all_cons, Bool.and_eq_true] at h
    obtain ⟨h1, h2⟩ := h
    have h1' := List.all_eq_true.1 h1 i (List.mem_range.2 hi)
    have hne : dstOf l i ≠ k := by simpa [hd] using h1'
    have e : Nat.beq k (dstOf l i) = false := by
      cases hb : Nat.beq k (dstOf l i) with
      | false => rfl
      | true => exact absurd (Nat.eq_of_beq_eq_true hb).symm hne
    simp only [Fr.get, e, cond_false]
    exact get_none_of_free hi hd h2
theorem mem_depFr {l : List Oper} {vs : Nat → Value} {p : Nat × Value} : ∀ {deps : List Nat}, p ∈ depFr l vs deps → ∃ j, j ∈ deps ∧ p = (dstOf l j, vs j)
  | [], h => by cases h
  | j :: r, h => by
    simp only [depFr, List.mem_cons] at h
    rcases h with h | h
    · exact ⟨j, by simp, h⟩
    · obtain ⟨i, hi, hp⟩ := mem_depFr h
      exact ⟨i, by simp [hi], hp⟩
def left (n : Nat) (listed : Array Bool) : Nat := (List.range n).countP fun i => !listed.getD i true
theorem left_set {m i : Nat} {listed : Array Bool} (hi : i < m) (hs : listed.size = m) (h : listed.getD i true = false) : left m (listed.setIfInBounds i true) + 1 = left m listed := by
  unfold left
  have key : ∀ (r : List Nat), r.Nodup → i ∈ r → (∀ j, j ∈ r → j < m) → r.countP (fun j => !(listed.setIfInBounds i true).getD j true) + 1 = r.countP (fun j => !listed.getD j true) := by
    intro r hr hmem hlt
    induction r with
    | nil => cases hmem
    | cons x r ih =>
      have hnd := List.nodup_cons.1 hr
      by_cases hx : x = i
      · subst hx
        have e1 : (listed.setIfInBounds x true).getD x true = true := by simp [Array.getD_eq_getD_getElem?, hs, hi]
        have e2 : r.countP (fun j => !(listed.setIfInBounds x true).getD j true) = r.countP (fun j => !listed.getD j true) := by
          refine List.countP_congr fun j hj => ?_
          have hne : x ≠ j := fun e => hnd.1 (e ▸ hj)
          rw [getD_set_ne true hne]
        simp only [List.countP_cons, e1, e2, h]
        simp
      · have hm : i ∈ r := by
          rcases List.mem_cons.1 hmem with h' | h'
          · exact absurd h'.symm hx
          · exact h'
        have ih' := ih hnd.2 hm (fun j hj => hlt j (List.mem_cons_of_mem _ hj))
        simp only [List.countP_cons]
        rw [getD_set_ne true (Ne.symm hx)]
        omega
  exact key _ List.nodup_range (List.mem_range.2 hi) (fun j hj => List.mem_range.1 hj)
theorem all_listed {m : Nat} {l : List Oper} {listed : Array Bool} (hok : drawOk n l = true) (hm : m = l.length) (hs : listed.size = m) (hr : Region.ready .any l.toArray listed = []) : ∀ i, i < m → listed.getD i false = true := by
  intro i
  induction i using Nat.strongRecOn with
  | _ i ih =>
    intro hi
    cases hc : listed.getD i false with
    | true => rfl
    | false =>
      exfalso
      have hget : l[i]? = some l[i] := List.getElem?_eq_getElem (by omega)
      have h1 := List.all_eq_true.1 hok i (List.mem_range.2 (by omega))
      simp only [hget, Bool.and_eq_true] at h1
      have hin : i ∈ Region.ready .any l.toArray listed := by
        refine mem_ready.2 ⟨?_, l[i], by simp [hget], fun e he hb => ?_⟩
        · rw [Array.getD_eq_getD_getElem?] at hc ⊢
          rw [Array.getElem?_eq_getElem (by omega)] at hc ⊢
          simpa using hc
        · have h2 := List.all_eq_true.1 h1.1.2 e (Array.mem_toList_iff.2 he)
          rw [hb] at h2
          have h3 : e.on < i := blt_lt (by simpa using h2)
          exact ih e.on h3 (by omega)
      rw [hr] at hin
      cases hin
variable {fin : Exit → Act → World → Prop} {k : List KI} {f : Fr} {w : World}
end
end Go.Eng
namespace Go.Eng
open Go Go.IntWalk
section
variable {P : Program} {n : Nat} {f : Fr} {w : World} {ty : TypeId}
theorem g_shlc {k k' : IntKind} {t u : TypeId} {x y : Operand} {i j m : Int} (hx : f.ev x = some (.int k i)) (hy : f.ev y = some (.int k' j)) (h : 0 ≤ j ∧ j ≤ k.bits) (hm : 2 ^ j.toNat = m) :
    Gives P n f w (.binOp .shl t x y u) ty (.int k (k.wrap (i * m))) w := by subst hm; exact g_shl hx hy h
theorem g_fold {op : Op} {k : IntKind} {i j : Int} (h : Gives P n f w op ty (.int k i) w) (e : i = j) : Gives P n f w op ty (.int k j) w := by subst e; exact h
end
theorem Bk.keep0 {w w' : World} {b : Nat} {T : TypeId} {cs : List Value} (h : Bk w b T cs) (k : Keep [] w w') : Bk w' b T cs := h.keep k (fun h => by cases h)
end Go.Eng
namespace Go.Eng
def RdL (w : World) (us : List Value) (ls : List (List UInt8)) : Prop := us.length = ls.length ∧ ∀ (i : Nat) x, ls[i]? = some x → ∃ u, us[i]? = some u ∧ RdB w u x
theorem RdL.keep0 {w w' : World} {us : List Value} {ls : List (List UInt8)} (h : RdL w us ls) (k : Keep [] w w') : RdL w' us ls :=
  ⟨h.1, fun i x hx => let ⟨u, hu, hr⟩ := h.2 i x hx; ⟨u, hu, hr.keep0 k⟩⟩
theorem RdL.get {w : World} {us : List Value} {ls : List (List UInt8)} (h : RdL w us ls) {i : Nat} (hi : i < ls.length) : ∃ u x, ls[i]? = some x ∧ us[i]? = some u ∧ RdB w u x := by
  obtain ⟨u, hu, hr⟩ := h.2 i ls[i] (List.getElem?_eq_getElem hi)
  exact ⟨u, _, List.getElem?_eq_getElem hi, hu, hr⟩
end Go.Eng
namespace Go.Eng
end Go.Eng
namespace Go.Eng
end Go.Eng
namespace Go.Eng
open Go Go.IntWalk
def plB (P : Program) (T : TypeId) : Option (List (Nat × Nat)) := match P.underlying T with
  | some (.struct fs) => fs.toList.mapM fun fd => (P.info? fd.type).map fun i => (fd.offset, i.size)
  | _ => none
def Pl (P : Program) (T : TypeId) (pls : List (Nat × Nat)) : Prop := plB P T = some pls
def bldL (pls : List (Nat × Nat)) : List Value → List (Nat × List Value) → Option (List Value)
  | cs, [] => some cs
  | cs, (i, vs) :: r => match pls[i]? with
    | some (off, size) => bif Nat.beq vs.length size && Nat.ble (off + size) cs.length then bldL pls (cs.take off ++ vs ++ cs.drop (off + size)) r else none
    | none => none
def CellsOf : List Value → List (List Value) → Prop
  | [], [] => True
  | v :: r, c :: t => v.cells = c.toArray ∧ CellsOf r t
  | _, _ => False
def enumC : List Nat → List (List Value) → List (Nat × List Value)
  | i :: r, c :: t => (i, c) :: enumC r t
  | _, _ => []
def enumI : List Nat → List Value → List (Nat × Value)
  | i :: r, c :: t => (i, c) :: enumI r t
  | _, _ => []
def enumO : List Nat → List Operand → List (Nat × Operand)
  | i :: r, c :: t => (i, c) :: enumO r t
  | _, _ => []
section
variable {P : Program} {n : Nat} {f : Fr} {w : World} {ty : TypeId}
theorem fill_bld {place : Nat → Option (Nat × Nat)} {pls : List (Nat × Nat)} (hpl : ∀ i x, pls[i]? = some x → place i = some x) : ∀ (idx : List Nat) (vs : List Value) (css : List (List Value)) (cs out : List Value), CellsOf vs css → idx.length = vs.length →
    bldL pls cs (enumC idx css) = some out → Instr.fill place cs.toArray (enumI idx vs) = some out.toArray
  | [], [], [], cs, out, _, _, h => by simp only [enumC, bldL, Option.some.injEq] at h; subst h; rfl
  | i :: idx, v :: vs, c :: css, cs, out, ⟨h1, h2⟩, hl, h => by
    simp only [enumC, bldL] at h
    split at h
    · rename_i off size hp
      cases hb : (Nat.beq c.length size && Nat.ble (off + size) cs.length) with
      | false => rw [hb] at h; cases h
      | true =>
        rw [hb] at h
        simp only [cond_true] at h
        simp only [Bool.and_eq_true] at hb
        have e1 : c.length = size := Nat.eq_of_beq_eq_true hb.1
        have e2 : off + size ≤ cs.length := Nat.le_of_ble_eq_true hb.2
        subst e1
        simp only [enumI, Instr.fill, hpl _ _ hp, h1, List.size_toArray]
        rw [if_neg (by simp; omega)]
        have hz := fold_set off c 0 cs (by omega)
        have hz' : (c.toArray.zipIdx.foldl (fun (cs : Array Value) (c : Value × Nat) => cs.setIfInBounds (off + c.2) c.1) cs.toArray) = (cs.take off ++ c ++ cs.drop (off + c.length)).toArray := by
          rw [← Array.foldl_toList, Array.toList_zipIdx]
          simpa using hz
        rw [hz']
        exact fill_bld hpl idx vs css _ out h2 (by simpa using hl) h
    · cases h
  | [], _ :: _, _, _, _, _, hl, _ => by simp at hl
  | _ :: _, [], _, _, _, _, hl, _ => by simp at hl
  | [], [], _ :: _, _, _, hc, _, _ => hc.elim
  | _ :: _, _ :: _, [], _, _, hc, _, _ => hc.elim
theorem evs_enumI {a : Act} (ha : Kn n f a) : ∀ {idx : List Nat} {xs : List Operand} {vs : List Value}, f.evs xs = some vs → (enumO idx xs).map (fun p => (p.1, a.eval p.2)) = enumI idx vs
  | [], xs, vs, _ => by simp [enumO, enumI]
  | i :: idx, [], vs, h => by simp only [Fr.evs, Option.some.injEq] at h; subst h; rfl
  | i :: idx, x :: r, vs, h => by
    unfold Fr.evs at h
    split at h
    · rename_i v hv
      split at h
      · rename_i us hu
        simp only [Option.some.injEq] at h
        subst h
        simp only [enumO, enumI, List.map_cons, ha.ev hv, evs_enumI ha hu]
      · cases h
    · cases h
theorem run_places {fs : Array Field} {pls : List (Nat × Nat)} (h : fs.toList.mapM (fun fd => (P.info? fd.type).map fun i => (fd.offset, i.size)) = some pls) (w : World) :
    (fs.mapM fun fd => (do pure (fd.offset, ← sizeOf fd.type) : Sem (Nat × Nat))).run P w = .ok pls.toArray w := by
  obtain ⟨l⟩ := fs
  simp only at h
  rw [List.mapM_toArray]
  have key : ∀ (l : List Field) (pls : List (Nat × Nat)), l.mapM (fun fd => (P.info? fd.type).map fun i => (fd.offset, i.size)) = some pls → (l.mapM fun fd => (do pure (fd.offset, ← sizeOf fd.type) : Sem (Nat × Nat))).run P w = .ok pls w := by
    intro l
    induction l with
    | nil => intro pls h; simp at h; subst h; rfl
    | cons x r ih =>
      intro pls h
      simp only [List.mapM_cons] at h ⊢
      cases hi : P.info? x.type with
      | none => rw [hi] at h; cases h
      | some i =>
        rw [hi] at h
        simp only [Option.map_some, Option.bind_eq_bind, Option.bind_some, Option.pure_def] at h
        cases hr : r.mapM (fun fd => (P.info? fd.type).map fun i => (fd.offset, i.size)) with
        | none => rw [hr] at h; cases h
        | some q =>
          rw [hr] at h
          simp only [Option.bind_some, Option.some.injEq] at h
          subst h
          have := ih q hr
          simp only [Sem.run_bind, sizeOf, typeInfo, run_program, Result.andThen_ok, hi, Sem.run_pure] at this ⊢
          rw [this]
          rfl
  have := key l pls h
  simp only [Sem.run_map, this, Result.andThen_ok]
theorem g_bld {T : TypeId} {pls : List (Nat × Nat)} {zs : List Value} {s by_ : Nat} {parts : Array (Nat × Operand)} {idx : List Nat} {xs : List Operand} {vs : List Value} {css : List (List Value)} {out : List Value}
    (hp : Pl P T pls) (hz : Ty P T zs s by_) (hpa : parts.toList = enumO idx xs) (hx : f.evs xs = some vs) (hc : CellsOf vs css) (hl : idx.length = vs.length) (hb : bldL pls zs (enumC idx css) = some out) :
    Gives P n f w (.build T parts) ty (.agg out.toArray) w := by
  intro a ha dst pos aft g
  unfold Pl plB at hp
  cases hu : P.underlying T with
  | none => rw [hu] at hp; cases hp
  | some d =>
    rw [hu] at hp
    cases d with
    | struct fs =>
      simp only at hp
      obtain ⟨z, hzc, hrz⟩ := hz.zeroValue w
      have hpv : (parts.map fun p => (p.1, a.eval p.2)) = (enumI idx vs).toArray := by
        rw [← Array.toList_inj]; simp [hpa, evs_enumI ha hx]
      have hfill := fill_bld (place := fun i => pls.toArray[i]?) (pls := pls) (fun i x h => by simpa using h) idx vs css zs out hc hl hb
      have hzz : z.cells = zs.toArray := by rw [← Array.toList_inj]; simpa using hzc
      simp only [execOp, Instr.build, Sem.run_bind, hrz, Result.andThen_ok, run_underlying hu, run_places hp, hpv, hzz]
      simp only [hfill, Sem.run_pure, Result.andThen_ok]
    | _ => cases hp
theorem g_blda {T e : TypeId} {m : Nat} {zs ze : List Value} {s by_ se be_ : Nat} {parts : Array (Nat × Operand)} {idx : List Nat} {xs : List Operand} {vs : List Value} {css : List (List Value)} {out : List Value} {pls : List (Nat × Nat)}
    (hT : P.underlying T = some (.array m e)) (he : Ty P e ze se be_) (hz : Ty P T zs s by_) (hpl : ∀ i x, pls[i]? = some x → some (i * se, se) = some x) (hpa : parts.toList = enumO idx xs) (hx : f.evs xs = some vs) (hc : CellsOf vs css) (hl : idx.length = vs.length) (hb : bldL pls zs (enumC idx css) = some out) :
    Gives P n f w (.build T parts) ty (.agg out.toArray) w := by
  intro a ha dst pos aft g
  obtain ⟨z, hzc, hrz⟩ := hz.zeroValue w
  have hpv : (parts.map fun p => (p.1, a.eval p.2)) = (enumI idx vs).toArray := by
    rw [← Array.toList_inj]; simp [hpa, evs_enumI ha hx]
  have hfill := fill_bld (place := fun i => some (i * se, se)) (pls := pls) hpl idx vs css zs out hc hl hb
  have hzz : z.cells = zs.toArray := by rw [← Array.toList_inj]; simpa using hzc
  simp only [execOp, Instr.build, Sem.run_bind, hrz, Result.andThen_ok, run_underlying hT, he.sizeOf, hpv, hzz]
  simp only [hfill, Sem.run_pure, Result.andThen_ok]
end
end Go.Eng
namespace Go.Eng
open Go Go.IntWalk
def tailOk (l : List Oper) (p : Nat) : Bool := Nat.ble p l.length && (List.range l.length).all fun i => Nat.blt i p || (List.range i).all fun j => match l[i]? with
  | none => false
  | some o => o.after.toList.any fun e => e.on == j && Region.binds .any e
section
variable {P : Program} {n : Nat}
theorem tail_dep {l : List Oper} {p i j : Nat} (h : tailOk l p = true) (hi : i < l.length) (hp : p ≤ i) (hj : j < i) {o : Oper} (ho : l[i]? = some o) : ∃ e ∈ o.after, e.on = j ∧ Region.binds .any e = true := by
  simp only [tailOk, Bool.and_eq_true] at h
  have h1 := List.all_eq_true.1 h.2 i (List.mem_range.2 hi)
  have hn : Nat.blt i p = false := by
    cases hb : Nat.blt i p with
    | false => rfl
    | true => have := blt_lt hb; omega
  rw [hn, Bool.false_or] at h1
  have h2 := List.all_eq_true.1 h1 j (List.mem_range.2 hj)
  rw [ho] at h2
  obtain ⟨e, he, h3⟩ := List.any_eq_true.1 h2
  simp only [Bool.and_eq_true, beq_iff_eq] at h3
  exact ⟨e, Array.mem_toList_iff.1 he, h3.1, h3.2⟩
theorem getD_lists {listed : Array Bool} {i m : Nat} (hs : listed.size = m) (hi : i < m) (d d' : Bool) : listed.getD i d = listed.getD i d' := by
  rw [Array.getD_eq_getD_getElem?, Array.getD_eq_getD_getElem?, Array.getElem?_eq_getElem (by omega)]; rfl
theorem wpAny_tail {l : List Oper} {p0 : Nat} {Q : Exit → Act → World → Prop} (hok : drawOk n l = true) (ht : tailOk l p0 = true) : ∀ (d p fuel : Nat) (listed : Array Bool) (a : Act) (w : World), d = l.length - p → p ≤ l.length → p0 ≤ p → d ≤ fuel → listed.size = l.length →
    (∀ i, i < l.length → listed.getD i false = decide (i < p)) → wpList P l.toArray Q (l.drop p) a w → wpAny P .any l.toArray Q fuel listed a w := by
  intro d
  induction d with
  | zero =>
    intro p fuel listed a w hd hp hp0 hf hs hl h
    have hpl : p = l.length := by omega
    subst hpl
    rw [List.drop_length] at h
    have hr : Region.ready .any l.toArray listed = [] := by
      cases hr : Region.ready .any l.toArray listed with
      | nil => rfl
      | cons i r =>
        exfalso
        have hi : i ∈ Region.ready .any l.toArray listed := by rw [hr]; simp
        obtain ⟨h0, o, ho, _⟩ := mem_ready.1 hi
        have hlt : i < l.length := by have := (Array.getElem?_eq_some_iff.1 ho).1; simpa using this
        rw [getD_lists hs hlt true false, hl i hlt] at h0
        simp [hlt] at h0
    cases fuel with
    | zero => exact ⟨hr, h⟩
    | succ f => exact ⟨fun _ => h, fun i hi => by rw [hr] at hi; cases hi⟩
  | succ d ih =>
    intro p fuel listed a w hd hp hp0 hf hs hl h
    have hplt : p < l.length := by omega
    obtain ⟨f, rfl⟩ : ∃ f, fuel = f + 1 := ⟨fuel - 1, by omega⟩
    have hget : l[p]? = some l[p] := List.getElem?_eq_getElem hplt
    have honly : ∀ i, i ∈ Region.ready .any l.toArray listed → i = p := by
      intro i hi
      obtain ⟨h0, o, ho, hedge⟩ := mem_ready.1 hi
      have hlt : i < l.length := by have := (Array.getElem?_eq_some_iff.1 ho).1; simpa using this
      have h1 : ¬ i < p := by
        rw [getD_lists hs hlt true false, hl i hlt] at h0
        simpa using h0
      rcases Nat.lt_or_ge p i with h2 | h2
      · obtain ⟨e, he, h3, h4⟩ := tail_dep ht hlt (by omega) h2 (by simpa using ho)
        have := hedge e he h4
        rw [h3, hl p hplt] at this
        simp at this
      · omega
    have hmem : p ∈ Region.ready .any l.toArray listed := by
      refine mem_ready.2 ⟨by rw [getD_lists hs hplt true false, hl p hplt]; simp, l[p], by simp [hget], fun e he hb => ?_⟩
      have h1 := List.all_eq_true.1 hok p (List.mem_range.2 hplt)
      simp only [hget, Bool.and_eq_true] at h1
      have h2 := List.all_eq_true.1 h1.1.2 e (Array.mem_toList_iff.2 he)
      rw [hb] at h2
      have h3 : e.on < p := blt_lt (by simpa using h2)
      rw [hl e.on (by omega)]; simpa using h3
    refine ⟨fun hr => (by rw [hr] at hmem; cases hmem), fun i hi => ?_⟩
    have := honly i hi
    subst this
    rw [List.drop_eq_getElem_cons hplt] at h
    unfold wpOp
    rw [show l.toArray[i]? = some l[i] from by simp [hget]]
    simp only
    unfold wpList at h
    have hnext : ∀ a' w', wpList P l.toArray Q (l.drop (i + 1)) a' w' → wpAny P .any l.toArray Q f (listed.setIfInBounds i true) a' w' := by
      intro a' w' h'
      refine ih (i + 1) f _ a' w' (by omega) (by omega) (by omega) (by omega) (by simpa using hs) ?_ h'
      intro j hj
      by_cases hij : i = j
      · subst hij
        rw [Array.getD_eq_getD_getElem?]; simp [hs, hj]
      · rw [getD_set_ne false hij, hl j hj]
        by_cases h1 : j < i
        · simp [h1]; omega
        · simp [h1]; omega
    split at h
    · rename_i hw
      rw [if_pos hw]
      exact h.imp (fun h => Oper.wp_mono (fun a' w' h' => hnext a' w' h') h) id
    · rename_i hw
      rw [if_neg hw]
      exact hnext _ _ h
variable {fin : Exit → Act → World → Prop} {k : List KI} {f : Fr} {w : World}
variable {fn : Func} {R : Value → World → Prop}
theorem run_loadAgg {T : TypeId} {zs cs : List Value} {s b g : Nat} {T' : TypeId} (hT : agB P T = true) (hs : Ty P T zs s b) (hb : Bk w g T' cs) (hl : cs.length = s) : (loadVar T ⟨g, 0, none⟩).run P w = .ok (.agg cs.toArray) w := by
  subst hl
  simp [loadVar, run_isAgg' hT, hs.sizeOf, run_loadCells_list w ⟨g, 0, none⟩ cs hb.row]
theorem results_c {a : Act} {t : Nat} {T : TypeId} {b : Addr} {v : Value} (h : fn.results = #[.cell t T]) (h1 : a.tmps.getD t undef = .pointer (some b)) (h3 : (loadVar T b).run P w = .ok v w) : (results fn a.tmps).run P w = .ok v w := by
  have h1' : (a.tmps[t]?).getD undef = .pointer (some b) := by rw [← Array.getD_eq_getD_getElem?]; exact h1
  simp [results, h, h1, h1', asAddr, h3]
theorem results_ct {a : Act} {t u : Nat} {T : TypeId} {b : Addr} {v : Value} (h : fn.results = #[.cell t T, .tmp u]) (h1 : a.tmps.getD t undef = .pointer (some b)) (h3 : (loadVar T b).run P w = .ok v w) : (results fn a.tmps).run P w = .ok (.tuple #[v, a.tmps.getD u undef]) w := by
  have h1' : (a.tmps[t]?).getD undef = .pointer (some b) := by rw [← Array.getD_eq_getD_getElem?]; exact h1
  simp [results, h, h1, h1', asAddr, h3]
theorem tw_retc (hfin : ∀ a w, (a.defers = [] ∧ ∃ v, (results fn a.tmps).run P w = .ok v w ∧ R v w) → fin .ret a w ∧ fin .normal a w) {t : Nat} {T : TypeId} {b : Addr} {v : Value} (hres : fn.results = #[.cell t T]) (h1 : f.get t = some (.pointer (some b))) (h3 : (loadVar T b).run P w = .ok v w) (hR : R v w) :
    TW P fin n (.c .ret :: k) f w := fun a ha => wp_ret (by
  rw [KQ_ret]
  exact (hfin a w ⟨ha.defers, _, results_c hres (ha.get t _ h1) h3, hR⟩).1)
theorem tw_retct (hfin : ∀ a w, (a.defers = [] ∧ ∃ v, (results fn a.tmps).run P w = .ok v w ∧ R v w) → fin .ret a w ∧ fin .normal a w) {t u : Nat} {T : TypeId} {b : Addr} {v x : Value} (hres : fn.results = #[.cell t T, .tmp u]) (h1 : f.get t = some (.pointer (some b))) (h3 : (loadVar T b).run P w = .ok v w) (hx : f.get u = some x) (hR : R (.tuple #[v, x]) w) :
    TW P fin n (.c .ret :: k) f w := fun a ha => wp_ret (by
  rw [KQ_ret]
  refine (hfin a w ⟨ha.defers, _, results_ct hres (ha.get t _ h1) h3, ?_⟩).1
  rw [ha.get u x hx]; exact hR)
theorem ow_gds {ops : Array Oper} {l : List Oper} {ty : TypeId} (f1 : Fr) {op : Op} {d : Nat} {pos : String} {aft : Array Edge} {j : Nat} {want c : Bool} {v : Value} (hG : Grd n ops f j want c) (hs : UndF c f1 f) (hr : c = true → Does P n f1 w op ty (fun v' w' => v' = v ∧ w = w')) (hd : Nat.blt d n = true)
    (h : OW P fin n k ops l ((d, gv c v) :: f) w) : OW P fin n k ops (⟨some d, op, ty, pos, aft, some (j, want)⟩ :: l) f w := by
  refine ow_gd f1 hG hs hr hd fun v' w' h1 h2 => ?_
  cases c with
  | true => obtain ⟨rfl, rfl⟩ := h1 rfl; exact h
  | false => rw [h2 rfl]; exact h
theorem ow_gdk {ops : Array Oper} {l : List Oper} {ty : TypeId} (f1 : Fr) {op : Op} {d : Nat} {pos : String} {aft : Array Edge} {j : Nat} {want c : Bool} {v : Value} (hG : Grd n ops f j want c) (hs : UndF c f1 f) (hr : c = true → Does P n f1 w op ty (fun v' w' => v' = v ∧ Keep [] w w')) (hd : Nat.blt d n = true)
    (h : ∀ w', Keep [] w w' → OW P fin n k ops l ((d, gv c v) :: f) w') : OW P fin n k ops (⟨some d, op, ty, pos, aft, some (j, want)⟩ :: l) f w := by
  refine ow_gd f1 hG hs hr hd fun v' w' h1 h2 => ?_
  cases c with
  | true => obtain ⟨rfl, h3⟩ := h1 rfl; exact h w' h3
  | false => rw [h2 rfl]; exact h w (Keep.refl _ _)
def SlL (w : World) (lo : Nat) (T : TypeId) (v : Value) (ls : List (List UInt8)) : Prop := ∃ us, us.length = ls.length ∧ RdL w us ls ∧ Own w lo T 1 v ls.length us
theorem SlL.keep0 {w w' : World} {lo : Nat} {T : TypeId} {v : Value} {ls : List (List UInt8)} (h : SlL w lo T v ls) (k : Keep [] w w') : SlL w' lo T v ls := by
  obtain ⟨us, h1, h2, h3⟩ := h; exact ⟨us, h1, h2.keep0 k, h3.keep0 k⟩
theorem SlL.lo {w : World} {lo lo' : Nat} {T : TypeId} {v : Value} {ls : List (List UInt8)} (h : SlL w lo T v ls) (hl : lo' ≤ lo) : SlL w lo' T v ls := by
  obtain ⟨us, h1, h2, h3⟩ := h; exact ⟨us, h1, h2, h3.lo hl⟩
theorem RdL.one {w : World} {us : List Value} {ls : List (List UInt8)} (h : RdL w us ls) : ∀ u ∈ us, u.cells = #[u] := by
  intro u hu
  obtain ⟨i, hi, rfl⟩ := List.getElem_of_mem hu
  obtain ⟨u', h1, h2⟩ := h.2 i (ls[i]'(by rw [← h.1]; exact hi)) (List.getElem?_eq_getElem _)
  rw [List.getElem?_eq_getElem hi] at h1
  cases h1
  exact h2.cells
theorem SlL.vblk {w : World} {lo : Nat} {T : TypeId} {v : Value} {ls : List (List UInt8)} (h : SlL w lo T v ls) : ∀ x, x ∈ Eng.vblk v → lo ≤ x ∧ x < w.heap.size := by
  obtain ⟨us, h1, h2, h3⟩ := h; exact h3.blk
theorem u64_in {i : Int} (h : 0 ≤ i ∧ i < 18446744073709551616) : IntKind.u64.wrap i = i := by
  have : IntKind.u64.wrap i = i % 18446744073709551616 := by simp [IntKind.wrap, IntKind.bits, IntKind.signed]
  rw [this]; omega
end
end Go.Eng
namespace Go.Byt
def byteAt (n : Int) (i : Nat) : UInt8 := UInt8.ofNat ((n / 2 ^ (8 * i)) % 256).toNat
def be (n : Int) (size : Nat) : List UInt8 := (List.range size).map fun j => byteAt n (size - 1 - j)
@[simp] theorem be_length (n : Int) (size : Nat) : (be n size).length = size := by simp [be]
def putI (n : Int) (size i : Nat) : List UInt8 := (List.range size).map fun j => if size - 1 - j < i then byteAt n (size - 1 - j) else 0
@[simp] theorem putI_length (n : Int) (size i : Nat) : (putI n size i).length = size := by simp [putI]
end Go.Byt
namespace Go.Byt
end Go.Byt
namespace Go.Byt
end Go.Byt
namespace Go.Byt
end Go.Byt
namespace Go.Byt
end Go.Byt
namespace Go.Byt
end Go.Byt
namespace Go.Proofs.Ytkngeapegpehpaa.W
open Go Go.Eng Go.Byt
theorem pl28 : Pl Try.prog 28 [(0, 5)] := by unfold Pl; kernel_rfl
theorem pl30 : Pl Try.prog 30 [(0, 5), (5, 5), (10, 5), (15, 5)] := by unfold Pl; kernel_rfl
theorem pl106 : Pl Try.prog 106 [(0, 1), (1, 1)] := by unfold Pl; kernel_rfl
theorem ty5 : Ty Try.prog 5 ([.int .u8 0]) 1 1 := by unfold Ty; kernel_rfl
theorem ty24 : Ty Try.prog 24 ([.int .u64 0]) 1 8 := by unfold Ty; kernel_rfl
theorem ty26 : Ty Try.prog 26 ([.int .u64 0, .int .u64 0, .int .u64 0, .int .u64 0, .int .u64 0]) 5 40 := by unfold Ty; kernel_rfl
theorem ty28 : Ty Try.prog 28 ([.int .u64 0, .int .u64 0, .int .u64 0, .int .u64 0, .int .u64 0]) 5 40 := by unfold Ty; kernel_rfl
theorem ty30 : Ty Try.prog 30 (List.replicate 20 (.int .u64 0)) 20 160 := by unfold Ty; kernel_rfl
theorem ty82 : Ty Try.prog 82 (List.replicate 320 (.int .u64 0)) 320 2560 := by unfold Ty; kernel_rfl
theorem ty85 : Ty Try.prog 85 (List.replicate 9 (.int .u64 0)) 9 72 := by unfold Ty; kernel_rfl
theorem ty104 : Ty Try.prog 104 ([.int .u64 0, .int .u64 0, .int .u64 0, .int .u64 0]) 4 32 := by unfold Ty; kernel_rfl
theorem ty106 : Ty Try.prog 106 ([.int .u64 0, .int .u64 0]) 2 16 := by unfold Ty; kernel_rfl
theorem ty108 : Ty Try.prog 108 (List.replicate 10 (.int .u64 0)) 10 80 := by unfold Ty; kernel_rfl
theorem ty116 : Ty Try.prog 116 (List.replicate 32 (.int .u8 0)) 32 32 := by unfold Ty; kernel_rfl
theorem sc5 : scB Try.prog 5 = true := by kernel_rfl
theorem sc24 : scB Try.prog 24 = true := by kernel_rfl
theorem ag26 : agB Try.prog 26 = true := by kernel_rfl
theorem ag28 : agB Try.prog 28 = true := by kernel_rfl
theorem ag30 : agB Try.prog 30 = true := by kernel_rfl
theorem ag85 : agB Try.prog 85 = true := by kernel_rfl
theorem ag104 : agB Try.prog 104 = true := by kernel_rfl
theorem ag106 : agB Try.prog 106 = true := by kernel_rfl
theorem ag108 : agB Try.prog 108 = true := by kernel_rfl
theorem ag116 : agB Try.prog 116 = true := by kernel_rfl
abbrev OwnB (w : World) (lo : Nat) (v : Value) (xs : List UInt8) : Prop := Own w lo 5 1 v xs.length (bv xs)
theorem mixed : Try.prog.follows .mixedOrders = true := by kernel_rfl
end Go.Proofs.Ytkngeapegpehpaa.W
namespace Go.Nt
def Pr (n : Nat) : Prop := 1 < n ∧ ∀ m, m ∣ n → m = 1 ∨ m = n
theorem Pr.coprime {p a : Nat} (hp : Pr p) (h : ¬ p ∣ a) : Nat.Coprime p a := by
  rcases hp.2 (Nat.gcd p a) (Nat.gcd_dvd_left p a) with h1 | h1
  · exact h1
  · exact absurd (h1 ▸ Nat.gcd_dvd_right p a) h
theorem Pr.dvd_mul {p a b : Nat} (hp : Pr p) (h : p ∣ a * b) : p ∣ a ∨ p ∣ b := by
  by_cases ha : p ∣ a
  · exact .inl ha
  · exact .inr ((hp.coprime ha).dvd_of_dvd_mul_left h)
def ch : Nat → Nat → Nat
  | _, 0 => 1
  | 0, _ + 1 => 0
  | n + 1, k + 1 => ch n k + ch n (k + 1)
theorem ch_zero (n : Nat) : ch n 0 = 1 := by cases n <;> rfl
theorem ch_succ (n k : Nat) : ch (n + 1) (k + 1) = ch n k + ch n (k + 1) := rfl
theorem ch_above : ∀ (n k : Nat), n < k → ch n k = 0
  | 0, k + 1, _ => rfl
  | n + 1, k + 1, h => by rw [ch_succ, ch_above n k (by omega), ch_above n (k + 1) (by omega)]
theorem ch_self : ∀ (n : Nat), ch n n = 1
  | 0 => rfl
  | n + 1 => by rw [ch_succ, ch_self n, ch_above n (n + 1) (by omega)]
theorem ch_absorb : ∀ (n k : Nat), (k + 1) * ch (n + 1) (k + 1) = (n + 1) * ch n k
  | 0, 0 => rfl
  | 0, k + 1 => by rw [ch_succ, ch_above 0 (k + 1) (by omega), ch_above 0 (k + 2) (by omega)]; simp
  | n + 1, 0 => by
    have h := ch_absorb n 0
    rw [ch_succ (n + 1) 0, ch_zero]
    rw [ch_zero] at h
    omega
  | n + 1, k + 1 => by
    have h1 := ch_absorb n k
    have h2 := ch_absorb n (k + 1)
    rw [ch_succ (n + 1) (k + 1), Nat.mul_add, h2, Nat.succ_mul (k + 1), h1]
    have e : ch (n + 1) (k + 1) = ch n k + ch n (k + 1) := rfl
    have e2 : (n + 1 + 1) * ch (n + 1) (k + 1) = (n + 1) * ch (n + 1) (k + 1) + ch (n + 1) (k + 1) := Nat.succ_mul _ _
    rw [e2]
    have e3 : (n + 1) * ch (n + 1) (k + 1) = (n + 1) * ch n k + (n + 1) * ch n (k + 1) := by rw [e, Nat.mul_add]
    omega
theorem Pr.dvd_ch {p k : Nat} (hp : Pr p) (h0 : 0 < k) (h1 : k < p) : p ∣ ch p k := by
  obtain ⟨n, rfl⟩ : ∃ n, p = n + 1 := ⟨p - 1, by have := hp.1; omega⟩
  obtain ⟨j, rfl⟩ : ∃ j, k = j + 1 := ⟨k - 1, by omega⟩
  have h := ch_absorb n j
  have hd : n + 1 ∣ (j + 1) * ch (n + 1) (j + 1) := h ▸ Nat.dvd_mul_right _ _
  rcases hp.dvd_mul hd with h2 | h2
  · exact absurd (Nat.le_of_dvd (by omega) h2) (by omega)
  · exact h2
def sm (f : Nat → Nat) : Nat → Nat
  | 0 => 0
  | m + 1 => sm f m + f m
theorem sm_add (f g : Nat → Nat) : ∀ m, sm (fun k => f k + g k) m = sm f m + sm g m
  | 0 => rfl
  | m + 1 => by simp only [sm, sm_add f g m]; omega
theorem sm_mul (c : Nat) (f : Nat → Nat) : ∀ m, sm (fun k => c * f k) m = c * sm f m
  | 0 => rfl
  | m + 1 => by simp only [sm, sm_mul c f m, Nat.mul_add]
theorem sm_shift (f : Nat → Nat) : ∀ m, sm f (m + 1) = f 0 + sm (fun k => f (k + 1)) m
  | 0 => by simp [sm]
  | m + 1 => by rw [sm, sm_shift f m]; simp only [sm]; omega
theorem sm_congr {f g : Nat → Nat} : ∀ {m : Nat}, (∀ k, k < m → f k = g k) → sm f m = sm g m
  | 0, _ => rfl
  | m + 1, h => by simp only [sm]; rw [sm_congr (m := m) (fun k hk => h k (by omega)), h m (by omega)]
theorem sm_dvd {p : Nat} {f : Nat → Nat} : ∀ {m : Nat}, (∀ k, k < m → p ∣ f k) → p ∣ sm f m
  | 0, _ => Nat.dvd_zero p
  | m + 1, h => Nat.dvd_add (sm_dvd (m := m) (fun k hk => h k (by omega))) (h m (by omega))
theorem binom (x : Nat) : ∀ n, (x + 1) ^ n = sm (fun k => ch n k * x ^ k) (n + 1)
  | 0 => by simp [sm, ch]
  | n + 1 => by
    have ih := binom x n
    have h0 : sm (fun k => ch n (k + 1) * x ^ (k + 1)) (n + 1) + 1 = sm (fun k => ch n k * x ^ k) (n + 1) := by
      have h1 := sm_shift (fun k => ch n k * x ^ k) (n + 1)
      have h2 : sm (fun k => ch n k * x ^ k) (n + 1 + 1) = sm (fun k => ch n k * x ^ k) (n + 1) := by
        show sm (fun k => ch n k * x ^ k) (n + 1) + ch n (n + 1) * x ^ (n + 1) = _
        rw [ch_above n (n + 1) (by omega)]; omega
      rw [h2] at h1
      rw [h1, ch_zero]; simp; omega
    rw [sm_shift, ch_zero]
    have h3 : sm (fun k => ch (n + 1) (k + 1) * x ^ (k + 1)) (n + 1) = x * sm (fun k => ch n k * x ^ k) (n + 1) + sm (fun k => ch n (k + 1) * x ^ (k + 1)) (n + 1) := by
      rw [← sm_mul, ← sm_add]
      refine sm_congr fun k _ => ?_
      rw [ch_succ, Nat.add_mul]
      congr 1
      rw [Nat.pow_succ, Nat.mul_comm x, Nat.mul_assoc]
    rw [h3, Nat.pow_succ, Nat.mul_add, ih, Nat.mul_comm _ x, Nat.pow_zero]
    omega
theorem Pr.binom {p : Nat} (hp : Pr p) (x : Nat) : ∃ m, (x + 1) ^ p = x ^ p + 1 + p * m := by
  obtain ⟨n, rfl⟩ : ∃ n, p = n + 1 := ⟨p - 1, by have := hp.1; omega⟩
  have h := Nt.binom x (n + 1)
  have hs : sm (fun k => ch (n + 1) k * x ^ k) (n + 1 + 1) = sm (fun k => ch (n + 1) k * x ^ k) (n + 1) + ch (n + 1) (n + 1) * x ^ (n + 1) := rfl
  rw [hs, ch_self, sm_shift, ch_zero] at h
  have hd : n + 1 ∣ sm (fun k => ch (n + 1) (k + 1) * x ^ (k + 1)) n := sm_dvd fun k hk => Nat.dvd_trans (hp.dvd_ch (by omega) (by omega)) (Nat.dvd_mul_right _ _)
  obtain ⟨m, hm⟩ := hd
  refine ⟨m, ?_⟩
  rw [h, hm]; simp; omega
theorem Pr.fermat {p : Nat} (hp : Pr p) : ∀ x, x ^ p % p = x % p
  | 0 => by rw [Nat.zero_pow (by have := hp.1; omega)]
  | x + 1 => by
    obtain ⟨m, hm⟩ := hp.binom x
    rw [hm, Nat.add_mul_mod_self_left, Nat.add_mod, hp.fermat x, ← Nat.add_mod]
theorem Pr.fermat1 {p x : Nat} (hp : Pr p) (h : ¬ p ∣ x) : x ^ (p - 1) % p = 1 := by
  have h1 := hp.1
  have hx : x ≠ 0 := fun e => h (e ▸ Nat.dvd_zero p)
  have hpos : 0 < x ^ (p - 1) := Nat.pow_pos (by omega)
  have e : x ^ p = x * x ^ (p - 1) := by
    obtain ⟨n, rfl⟩ : ∃ n, p = n + 1 := ⟨p - 1, by omega⟩
    rw [Nat.pow_succ, Nat.mul_comm]; rfl
  have hf := hp.fermat x
  have hle : x ≤ x * x ^ (p - 1) := Nat.le_mul_of_pos_right x hpos
  have hd : p ∣ x * (x ^ (p - 1) - 1) := by
    rw [Nat.mul_sub, Nat.mul_one]
    rw [e] at hf
    exact Nat.dvd_of_mod_eq_zero (Nat.sub_mod_eq_zero_of_mod_eq hf)
  rcases hp.dvd_mul hd with h2 | h2
  · exact absurd h2 h
  · obtain ⟨k, hk⟩ := h2
    have : x ^ (p - 1) = 1 + p * k := by omega
    rw [this, Nat.add_mul_mod_self_left, Nat.mod_eq_of_lt h1]
theorem pow_one_mod {r g : Nat} (hr : 1 < r) (h : g % r = 1) (k : Nat) : g ^ k % r = 1 := by
  rw [Nat.pow_mod, h, Nat.one_pow, Nat.mod_eq_of_lt hr]
theorem pow_gcd {r g : Nat} (hr : 1 < r) : ∀ (m k : Nat), g ^ m % r = 1 → g ^ k % r = 1 → g ^ (Nat.gcd m k) % r = 1 := by
  intro m k
  induction m, k using Nat.gcd.induction with
  | H0 n => intro _ h; rwa [Nat.gcd_zero_left]
  | H1 m n hm ih =>
    intro h1 h2
    rw [Nat.gcd_rec]
    refine ih ?_ h1
    have e : g ^ n = (g ^ m) ^ (n / m) * g ^ (n % m) := by rw [← Nat.pow_mul, ← Nat.pow_add, Nat.div_add_mod]
    rw [e, Nat.mul_mod, pow_one_mod hr h1, Nat.one_mul, Nat.mod_mod] at h2
    exact h2
def pw (n : Nat) : Nat → Nat → Nat → Nat
  | 0, _, _ => 1 % n
  | f + 1, a, e => bif Nat.beq e 0 then 1 % n else bif Nat.beq (e % 2) 1 then a * pw n f (a * a % n) (e / 2) % n else pw n f (a * a % n) (e / 2)
theorem pw_eq (n : Nat) : ∀ (f a e : Nat), e < 2 ^ f → pw n f a e = a ^ e % n
  | 0, a, e, h => by have : e = 0 := by simpa using h
                     subst this; rfl
  | f + 1, a, e, h => by
    unfold pw
    have hlt : e / 2 < 2 ^ f := by rw [Nat.pow_succ] at h; omega
    have ih := pw_eq n f (a * a % n) (e / 2) hlt
    have e1 : (a * a % n) ^ (e / 2) % n = a ^ (2 * (e / 2)) % n := by rw [← Nat.pow_mod, ← Nat.pow_two, ← Nat.pow_mul]
    by_cases h0 : e = 0
    · subst h0; rfl
    · have hb : Nat.beq e 0 = false := by cases hc : Nat.beq e 0 with
        | false => rfl
        | true => exact absurd (Nat.eq_of_beq_eq_true hc) h0
      rw [hb, cond_false, ih, e1]
      by_cases h1 : e % 2 = 1
      · have hb1 : Nat.beq (e % 2) 1 = true := by rw [h1]; rfl
        rw [hb1, cond_true, Nat.mul_mod, Nat.mod_mod, ← Nat.mul_mod]
        have : e = 2 * (e / 2) + 1 := by omega
        conv => rhs; rw [this, Nat.pow_succ, Nat.mul_comm]
      · have hb1 : Nat.beq (e % 2) 1 = false := by
          cases hc : Nat.beq (e % 2) 1 with
          | false => rfl
          | true => exact absurd (Nat.eq_of_beq_eq_true hc) h1
        rw [hb1, cond_false]
        have : 2 * (e / 2) = e := by omega
        rw [this]
theorem has_prime : ∀ (n : Nat), 1 < n → ∃ r, Pr r ∧ r ∣ n := by
  intro n
  induction n using Nat.strongRecOn with
  | _ n ih =>
    intro h
    by_cases hp : Pr n
    · exact ⟨n, hp, Nat.dvd_refl n⟩
    · have : ∃ m, m ∣ n ∧ m ≠ 1 ∧ m ≠ n := by
        apply Classical.byContradiction
        intro hn
        refine hp ⟨h, fun m hm => ?_⟩
        apply Classical.byContradiction
        intro hc
        exact hn ⟨m, hm, fun e => hc (.inl e), fun e => hc (.inr e)⟩
      obtain ⟨m, hm, h1, h2⟩ := this
      have hle := Nat.le_of_dvd (by omega) hm
      have h0 : m ≠ 0 := fun e => by subst e; have := Nat.eq_zero_of_zero_dvd hm; omega
      obtain ⟨r, hr, hd⟩ := ih m (by omega) (by omega)
      exact ⟨r, hr, Nat.dvd_trans hd hm⟩
theorem small_prime {n : Nat} (h : 1 < n) (hn : ¬ Pr n) : ∃ r, Pr r ∧ r ∣ n ∧ r * r ≤ n := by
  have : ∃ m, m ∣ n ∧ m ≠ 1 ∧ m ≠ n := by
    apply Classical.byContradiction
    intro hc
    refine hn ⟨h, fun m hm => ?_⟩
    apply Classical.byContradiction
    intro hd
    exact hc ⟨m, hm, fun e => hd (.inl e), fun e => hd (.inr e)⟩
  obtain ⟨m, ⟨k, hk⟩, h1, h2⟩ := this
  have hm0 : m ≠ 0 := fun e => by subst e; omega
  have hk0 : k ≠ 0 := fun e => by subst e; omega
  have hk1 : k ≠ 1 := fun e => by subst e; omega
  rcases Nat.le_total m k with hmk | hmk
  · obtain ⟨r, hr, hd⟩ := has_prime m (by omega)
    have hle := Nat.le_of_dvd (by omega) hd
    refine ⟨r, hr, Nat.dvd_trans hd ⟨k, hk⟩, ?_⟩
    rw [hk]; exact Nat.mul_le_mul hle (Nat.le_trans hle hmk)
  · obtain ⟨r, hr, hd⟩ := has_prime k (by omega)
    have hle := Nat.le_of_dvd (by omega) hd
    refine ⟨r, hr, Nat.dvd_trans hd ⟨m, by rw [hk, Nat.mul_comm]⟩, ?_⟩
    rw [hk]; exact Nat.mul_le_mul (Nat.le_trans hle hmk) hle
def tells (n q a : Nat) : Bool := Nat.beq (q * ((n - 1) / q)) (n - 1) && Nat.beq (pw n 256 a (n - 1)) 1 && Nat.beq (Nat.gcd (pw n 256 a ((n - 1) / q) + (n - 1)) n) 1
theorem tells_dvd {n q a r : Nat} (hn : 1 < n) (hb : n < 2 ^ 256) (hq : Pr q) (ht : tells n q a = true) (hr : Pr r) (hd : r ∣ n) : q ∣ r - 1 := by
  simp only [tells, Bool.and_eq_true] at ht
  obtain ⟨⟨t1, t2⟩, t3⟩ := ht
  have t1 := Nat.eq_of_beq_eq_true t1
  have t2 := Nat.eq_of_beq_eq_true t2
  have t3 := Nat.eq_of_beq_eq_true t3
  have hr1 := hr.1
  rw [pw_eq n 256 a (n - 1) (by omega)] at t2
  rw [pw_eq n 256 a ((n - 1) / q) (Nat.lt_of_le_of_lt (Nat.div_le_self _ _) (by omega))] at t3
  have ha1 : a ^ (n - 1) % r = 1 := by
    rw [← Nat.mod_mod_of_dvd _ hd, t2, Nat.mod_eq_of_lt hr1]
  have hra : ¬ r ∣ a := by
    intro h
    obtain ⟨k, hk⟩ := h
    obtain ⟨m, hm⟩ : ∃ m, n - 1 = m + 1 := ⟨n - 2, by omega⟩
    rw [hm, Nat.pow_succ, hk, ← Nat.mul_assoc, Nat.mul_comm _ r, Nat.mul_assoc, Nat.mul_mod_right] at ha1
    omega
  have hf := hr.fermat1 hra
  rcases hq.2 (Nat.gcd q (r - 1)) (Nat.gcd_dvd_left _ _) with h1 | h1
  · exfalso
    have g1 : (a ^ ((n - 1) / q)) ^ q % r = 1 := by rw [← Nat.pow_mul, Nat.mul_comm, t1]; exact ha1
    have g2 : (a ^ ((n - 1) / q)) ^ (r - 1) % r = 1 := by rw [← Nat.pow_mul, Nat.mul_comm, Nat.pow_mul]; exact pow_one_mod hr1 hf _
    have g3 := pow_gcd hr1 q (r - 1) g1 g2
    rw [h1, Nat.pow_one] at g3
    have g4 : r ∣ a ^ ((n - 1) / q) % n + (n - 1) := by
      have e1 : (a ^ ((n - 1) / q) % n) % r = 1 := by rw [Nat.mod_mod_of_dvd _ hd]; exact g3
      obtain ⟨k, hk⟩ := hd
      have hk0 : k ≠ 0 := fun e => by subst e; omega
      have e2 : a ^ ((n - 1) / q) % n = 1 + r * ((a ^ ((n - 1) / q) % n) / r) := by
        have := Nat.mod_add_div (a ^ ((n - 1) / q) % n) r
        omega
      rw [e2]
      have hpos : 0 < r * k := by rw [← hk]; omega
      exact ⟨(a ^ ((n - 1) / q) % n) / r + k, by rw [Nat.mul_add]; omega⟩
    have g5 := Nat.dvd_gcd g4 hd
    rw [t3] at g5
    have := Nat.le_of_dvd (by decide) g5
    omega
  · rw [← h1]; exact Nat.gcd_dvd_right _ _
theorem prime1 {n q a : Nat} (hn : 1 < n) (hb : n < 2 ^ 256) (hq : Pr q) (ht : tells n q a = true) (hs : n < q * q) : Pr n := by
  apply Classical.byContradiction
  intro hc
  obtain ⟨r, hr, hd, hle⟩ := small_prime hn hc
  have h1 := tells_dvd hn hb hq ht hr hd
  have h2 := Nat.le_of_dvd (by have := hr.1; omega) h1
  have : q * q ≤ r * r := Nat.mul_le_mul (by omega) (by omega)
  omega
theorem prime2 {n q a q' a' : Nat} (hn : 1 < n) (hb : n < 2 ^ 256) (hq : Pr q) (ht : tells n q a = true) (hq' : Pr q') (ht' : tells n q' a' = true) (hne : q' < q) (hs : n < (q * q') * (q * q')) : Pr n := by
  apply Classical.byContradiction
  intro hc
  obtain ⟨r, hr, hd, hle⟩ := small_prime hn hc
  have h1 := tells_dvd hn hb hq ht hr hd
  have h1' := tells_dvd hn hb hq' ht' hr hd
  have hco : Nat.Coprime q q' := hq.coprime (fun h => by
    have := Nat.le_of_dvd (by have := hq'.1; omega) h
    omega)
  have h3 : q * q' ∣ r - 1 := hco.mul_dvd_of_dvd_of_dvd h1 h1'
  have h2 := Nat.le_of_dvd (by have := hr.1; omega) h3
  have : (q * q') * (q * q') ≤ r * r := Nat.mul_le_mul (by omega) (by omega)
  omega
def noneDiv (n : Nat) : Nat → Nat → Bool
  | 0, _ => true
  | f + 1, k => !Nat.beq (n % k) 0 && noneDiv n f (k + 1)
theorem noneDiv_mod {n : Nat} : ∀ (f k m : Nat), noneDiv n f k = true → k ≤ m → m < k + f → n % m ≠ 0
  | 0, k, m, _, h1, h2 => by omega
  | f + 1, k, m, h, h1, h2 => by
    simp only [noneDiv, Bool.and_eq_true, Bool.not_eq_true'] at h
    by_cases hm : m = k
    · subst hm
      intro e
      rw [e] at h
      exact absurd h.1 (by decide)
    · exact noneDiv_mod f (k + 1) m h.2 (by omega) (by omega)
theorem prime0 {n : Nat} (f : Nat) (hn : 1 < n) (h : noneDiv n f 2 = true) (hs : n < (f + 2) * (f + 2)) : Pr n := by
  apply Classical.byContradiction
  intro hc
  obtain ⟨r, hr, hd, hle⟩ := small_prime hn hc
  have hr1 := hr.1
  rcases Nat.lt_or_ge r (2 + f) with h1 | h1
  · exact noneDiv_mod f 2 r h (by omega) h1 (Nat.mod_eq_zero_of_dvd hd)
  · have : (f + 2) * (f + 2) ≤ r * r := Nat.mul_le_mul (by omega) (by omega)
    omega
set_option maxRecDepth 100000
theorem pr8574133 : Pr 8574133 := prime0 2928 (by decide) (by decide +kernel) (by decide)
theorem pr127 : Pr 127 := prime0 10 (by decide) (by decide +kernel) (by decide)
theorem pr430751 : Pr 430751 := prime0 656 (by decide) (by decide +kernel) (by decide)
theorem pr4153 : Pr 4153 := prime0 64 (by decide) (by decide +kernel) (by decide)
theorem pr2773320623 : Pr 2773320623 := prime0 52662 (by decide) (by decide +kernel) (by decide)
theorem pr72106336199 : Pr 72106336199 := prime1 (q := 2773320623) (a := 2) (by decide) (by decide) pr2773320623 (by decide +kernel) (by decide)
theorem pr1919519569386763 : Pr 1919519569386763 := prime2 (q := 8574133) (a := 2) (q' := 127) (a' := 2) (by decide) (by decide) pr8574133 (by decide +kernel) pr127 (by decide +kernel) (by decide) (by decide)
theorem pr31757755568855353 : Pr 31757755568855353 := prime2 (q := 430751) (a := 2) (q' := 4153) (a' := 2) (by decide) (by decide) pr430751 (by decide +kernel) pr4153 (by decide +kernel) (by decide) (by decide)
theorem prB : Pr 75445702479781427272750846543864801 := prime2 (q := 1919519569386763) (a := 2) (q' := 72106336199) (a' := 2) (by decide) (by decide) pr1919519569386763 (by decide +kernel) pr72106336199 (by decide +kernel) (by decide) (by decide)
theorem prA : Pr 74058212732561358302231226437062788676166966415465897661863160754340907 := prime2 (q := 75445702479781427272750846543864801) (a := 2) (q' := 31757755568855353) (a' := 2) (by decide) (by decide) prB (by decide +kernel) pr31757755568855353 (by decide +kernel) (by decide) (by decide)
theorem prP : Pr 57896044618658097711785492504343953926634992332820282019728792003956564819949 := prime1 (q := 74058212732561358302231226437062788676166966415465897661863160754340907) (a := 2) (by decide) (by decide) prA (by decide +kernel) (by decide)
end Go.Nt
namespace Go.Ed
open Go.Nt
abbrev P : Nat := 57896044618658097711785492504343953926634992332820282019728792003956564819949
instance : NeZero P := ⟨by decide⟩
abbrev Fp := Fin P
theorem prime : Pr P := prP
theorem val_mul (a b : Fp) : (a * b).val = a.val * b.val % P := rfl
theorem val_add (a b : Fp) : (a + b).val = (a.val + b.val) % P := rfl
theorem mul_zero_or {a b : Fp} (h : a * b = 0) : a = 0 ∨ b = 0 := by
  have h1 : a.val * b.val % P = 0 := by rw [← val_mul, h]; rfl
  rcases prime.dvd_mul (Nat.dvd_of_mod_eq_zero h1) with h2 | h2
  · exact .inl (Fin.ext (Nat.eq_zero_of_dvd_of_lt h2 a.isLt))
  · exact .inr (Fin.ext (Nat.eq_zero_of_dvd_of_lt h2 b.isLt))
theorem mul_ne {a b : Fp} (ha : a ≠ 0) (hb : b ≠ 0) : a * b ≠ 0 := fun h => (mul_zero_or h).elim ha hb
theorem mul_cancel {a b c : Fp} (hc : c ≠ 0) (h : a * c = b * c) : a = b := by
  have h1 : (a - b) * c = 0 := by grind -lia -linarith
  rcases mul_zero_or h1 with h2 | h2
  · grind -lia -linarith
  · exact absurd h2 hc
def fpow (a : Fp) : Nat → Fp
  | 0 => 1
  | n + 1 => fpow a n * a
theorem fpow_val (a : Fp) : ∀ n, (fpow a n).val = a.val ^ n % P
  | 0 => rfl
  | n + 1 => by rw [fpow, val_mul, fpow_val a n, Nat.pow_succ, Nat.mod_mul_mod]
theorem fpow_add (a : Fp) (m : Nat) : ∀ n, fpow a (m + n) = fpow a m * fpow a n
  | 0 => (Fin.mul_one _).symm
  | n + 1 => by rw [← Nat.add_assoc, fpow, fpow_add a m n, fpow, Fin.mul_assoc]
theorem fpow_mul (a : Fp) (m : Nat) : ∀ n, fpow a (m * n) = fpow (fpow a m) n
  | 0 => rfl
  | n + 1 => by rw [Nat.mul_succ, fpow_add, fpow_mul a m n, fpow]
theorem one_fpow (a : Fp) : fpow a 1 = a := Fin.one_mul a
theorem fermat {a : Fp} (h : a ≠ 0) : fpow a (P - 1) = 1 := by
  apply Fin.ext
  rw [fpow_val, prime.fermat1 (fun hd => h (Fin.ext (Nat.eq_zero_of_dvd_of_lt hd a.isLt)))]
  rfl
def inv (a : Fp) : Fp := fpow a (P - 2)
theorem mul_inv {a : Fp} (h : a ≠ 0) : a * inv a = 1 := by
  have h1 := fermat h
  have e : P - 1 = (P - 2) + 1 := rfl
  rw [e] at h1
  rw [Fin.mul_comm]; exact h1
theorem inv_unique {a b : Fp} (h : a * b = 1) : inv a = b := by
  have ha : a ≠ 0 := fun e => by subst e; rw [Fin.zero_mul] at h; exact absurd h (by decide)
  have := mul_inv ha
  grind -lia -linarith
theorem fpow_pw (a : Fp) (n : Nat) (h : n < 2 ^ 256) : (fpow a n).val = pw P 256 a.val n := by rw [fpow_val, pw_eq _ _ _ _ h]
def d : Fp := ⟨37095705934669439343138083508754565189542113879843219016388785533085940283555, by decide⟩
def im : Fp := ⟨19681161376707505956807079304988542015446066515923890162744021073123829784752, by decide⟩
theorem im_sq : im * im = -1 := by decide +kernel
theorem d_ne : d ≠ 0 := by decide +kernel
theorem d_half : fpow d ((P - 1) / 2) = -1 := by
  apply Fin.ext
  rw [fpow_pw _ _ (by decide)]
  decide +kernel
theorem no_root (s : Fp) : s * s ≠ d := by
  intro h
  have hs : s ≠ 0 := fun e => by subst e; exact d_ne (by rw [← h, Fin.mul_zero])
  have h1 : fpow (fpow s 2) ((P - 1) / 2) = 1 := by
    rw [← fpow_mul]; exact fermat hs
  have h2 : fpow s 2 = d := by rw [← h]; show 1 * s * s = s * s; rw [Fin.one_mul]
  rw [h2, d_half] at h1
  exact absurd h1 (by decide +kernel)
theorem two_ne : (2 : Fp) ≠ 0 := by decide +kernel
def On (x y : Fp) : Prop := y * y - x * x = 1 + d * x * x * y * y
theorem far {x1 y1 x2 y2 : Fp} (h1 : On x1 y1) (h2 : On x2 y2) : (d * x1 * x2 * y1 * y2) * (d * x1 * x2 * y1 * y2) ≠ 1 := by
  intro he
  unfold On at h1 h2
  generalize hee : d * x1 * x2 * y1 * y2 = e at he
  have hi := im_sq
  have e0 : x1 * y1 ≠ 0 := fun h => by
    have : e = 0 := by grind -lia -linarith
    rw [this, Fin.zero_mul] at he; exact absurd he (by decide)
  have e2 : y2 ≠ 0 := fun h => by
    have : e = 0 := by rw [← hee, h, Fin.mul_zero]
    rw [this, Fin.zero_mul] at he; exact absurd he (by decide)
  have k1 : (im * x1 + e * y1) * (im * x1 + e * y1) = d * (x1 * y1) * (x1 * y1) * ((y2 + im * x2) * (y2 + im * x2)) := by grind -lia -linarith
  have k2 : (im * x1 - e * y1) * (im * x1 - e * y1) = d * (x1 * y1) * (x1 * y1) * ((y2 - im * x2) * (y2 - im * x2)) := by grind -lia -linarith
  have fin : ∀ u v : Fp, v ≠ 0 → u * u ≠ d * (x1 * y1) * (x1 * y1) * (v * v) := by
    intro u v hv hc
    have h3 := mul_inv (mul_ne e0 hv)
    refine no_root (u * inv (x1 * y1 * v)) ?_
    grind -lia -linarith
  by_cases hz : y2 + im * x2 = 0
  · refine fin _ (y2 - im * x2) (fun h => ?_) k2
    have : (2 : Fp) * y2 = 0 := by grind -lia -linarith
    rcases mul_zero_or this with h | h
    · exact two_ne h
    · exact e2 h
  · exact fin _ _ hz k1
theorem far1 {x1 y1 x2 y2 : Fp} (h1 : On x1 y1) (h2 : On x2 y2) : 1 + d * x1 * x2 * y1 * y2 ≠ 0 := fun h => far h1 h2 (by grind -lia -linarith)
theorem far2 {x1 y1 x2 y2 : Fp} (h1 : On x1 y1) (h2 : On x2 y2) : 1 - d * x1 * x2 * y1 * y2 ≠ 0 := fun h => far h1 h2 (by grind -lia -linarith)
abbrev Pt := Fp × Fp
def OnP (p : Pt) : Prop := On p.1 p.2
def padd (p q : Pt) : Pt := ((p.1 * q.2 + p.2 * q.1) * inv (1 + d * p.1 * q.1 * p.2 * q.2), (p.2 * q.2 + p.1 * q.1) * inv (1 - d * p.1 * q.1 * p.2 * q.2))
def zero : Pt := (0, 1)
def pneg (p : Pt) : Pt := (-p.1, p.2)
theorem on_zero : OnP zero := by unfold OnP On zero; decide +kernel
theorem on_neg {p : Pt} (h : OnP p) : OnP (pneg p) := by unfold OnP On pneg at *; grind -lia -linarith
theorem padd_comm (p q : Pt) : padd p q = padd q p := by
  unfold padd
  have e1 : p.1 * q.2 + p.2 * q.1 = q.1 * p.2 + q.2 * p.1 := by grind -lia -linarith
  have e2 : p.2 * q.2 + p.1 * q.1 = q.2 * p.2 + q.1 * p.1 := by grind -lia -linarith
  have e3 : d * p.1 * q.1 * p.2 * q.2 = d * q.1 * p.1 * q.2 * p.2 := by grind -lia -linarith
  rw [e1, e2, e3]
theorem on_add {p q : Pt} (hp : OnP p) (hq : OnP q) : OnP (padd p q) := by
  obtain ⟨x1, y1⟩ := p
  obtain ⟨x2, y2⟩ := q
  have u1 := mul_inv (far1 hp hq)
  have u2 := mul_inv (far2 hp hq)
  unfold OnP On padd at *
  simp only at *
  generalize inv (1 + d * x1 * x2 * y1 * y2) = u at *
  generalize inv (1 - d * x1 * x2 * y1 * y2) = v at *
  have key : (y1 * y2 + x1 * x2) * (y1 * y2 + x1 * x2) * ((1 + d * x1 * x2 * y1 * y2) * (1 + d * x1 * x2 * y1 * y2)) - (x1 * y2 + y1 * x2) * (x1 * y2 + y1 * x2) * ((1 - d * x1 * x2 * y1 * y2) * (1 - d * x1 * x2 * y1 * y2)) = (1 + d * x1 * x2 * y1 * y2) * (1 + d * x1 * x2 * y1 * y2) * ((1 - d * x1 * x2 * y1 * y2) * (1 - d * x1 * x2 * y1 * y2)) + d * (x1 * y2 + y1 * x2) * (x1 * y2 + y1 * x2) * (y1 * y2 + x1 * x2) * (y1 * y2 + x1 * x2) := by grind -lia -linarith
  generalize 1 + d * x1 * x2 * y1 * y2 = a at *
  generalize 1 - d * x1 * x2 * y1 * y2 = b at *
  generalize y1 * y2 + x1 * x2 = m at *
  generalize x1 * y2 + y1 * x2 = n at *
  have k2 : (m * m * (a * a) - n * n * (b * b)) * (u * u * (v * v)) = (a * a * (b * b) + d * n * n * m * m) * (u * u * (v * v)) := by rw [key]
  grind -lia -linarith
theorem zero_add (p : Pt) : padd zero p = p := by
  have e1 : inv (1 : Fp) = 1 := inv_unique (Fin.one_mul 1)
  obtain ⟨x, y⟩ := p
  have e2 : 1 + d * 0 * x * 1 * y = 1 := by grind -lia -linarith
  have e3 : 1 - d * 0 * x * 1 * y = 1 := by grind -lia -linarith
  unfold padd zero
  simp only
  rw [e2, e3, e1]
  refine Prod.ext ?_ ?_
  · show (0 * y + 1 * x) * 1 = x
    grind -lia -linarith
  · show (1 * y + 0 * x) * 1 = y
    grind -lia -linarith
theorem add_zero (p : Pt) : padd p zero = p := by rw [padd_comm, zero_add]
theorem add_neg {p : Pt} (h : OnP p) : padd p (pneg p) = zero := by
  have u2 := mul_inv (far2 h (on_neg h))
  obtain ⟨x, y⟩ := p
  unfold OnP On padd pneg zero at *
  simp only at *
  refine Prod.ext ?_ ?_
  · show (x * y + y * -x) * _ = 0
    grind -lia -linarith
  · show (y * y + x * -x) * _ = 1
    have e : y * y + x * -x = 1 - d * x * -x * y * y := by grind -lia -linarith
    rw [e]; exact u2
set_option maxRecDepth 100000 in
theorem assoc_x {x1 y1 x2 y2 x3 y3 d : Fp} (h1 : y1 * y1 - x1 * x1 = 1 + d * x1 * x1 * y1 * y1) (h2 : y2 * y2 - x2 * x2 = 1 + d * x2 * x2 * y2 * y2) (h3 : y3 * y3 - x3 * x3 = 1 + d * x3 * x3 * y3 * y3) :
    ((x1 * y2 + y1 * x2) * (1 - d * x1 * x2 * y1 * y2) * y3 + (y1 * y2 + x1 * x2) * (1 + d * x1 * x2 * y1 * y2) * x3) * ((1 + d * x2 * x3 * y2 * y3) * (1 - d * x2 * x3 * y2 * y3) + d * x1 * y1 * (x2 * y3 + y2 * x3) * (y2 * y3 + x2 * x3)) =
    (x1 * (y2 * y3 + x2 * x3) * (1 + d * x2 * x3 * y2 * y3) + y1 * (x2 * y3 + y2 * x3) * (1 - d * x2 * x3 * y2 * y3)) * ((1 + d * x1 * x2 * y1 * y2) * (1 - d * x1 * x2 * y1 * y2) + d * (x1 * y2 + y1 * x2) * (y1 * y2 + x1 * x2) * x3 * y3) := by
  have g1 : y1 * y1 - x1 * x1 - (1 + d * x1 * x1 * y1 * y1) = 0 := by grind -lia -linarith
  have g2 : y2 * y2 - x2 * x2 - (1 + d * x2 * x2 * y2 * y2) = 0 := by grind -lia -linarith
  have g3 : y3 * y3 - x3 * x3 - (1 + d * x3 * x3 * y3 * y3) = 0 := by grind -lia -linarith
  have key : ((x1 * y2 + y1 * x2) * (1 - d * x1 * x2 * y1 * y2) * y3 + (y1 * y2 + x1 * x2) * (1 + d * x1 * x2 * y1 * y2) * x3) * ((1 + d * x2 * x3 * y2 * y3) * (1 - d * x2 * x3 * y2 * y3) + d * x1 * y1 * (x2 * y3 + y2 * x3) * (y2 * y3 + x2 * x3)) - ((x1 * (y2 * y3 + x2 * x3) * (1 + d * x2 * x3 * y2 * y3) + y1 * (x2 * y3 + y2 * x3) * (1 - d * x2 * x3 * y2 * y3)) * ((1 + d * x1 * x2 * y1 * y2) * (1 - d * x1 * x2 * y1 * y2) + d * (x1 * y2 + y1 * x2) * (y1 * y2 + x1 * x2) * x3 * y3)) =
    (-x1*x2*x2*x2*x2*y2*y2*y2*x3*x3*y3*d*d - x1*x2*x2*x2*x2*y2*x3*x3*y3*d - x1*x2*x2*x2*y2*y2*y2*y2*x3*y3*y3*d*d - x1*x2*x2*x2*y2*y2*x3*x3*x3*d - x1*x2*x2*x2*y2*y2*x3*d + x1*x2*x2*y2*y2*y2*y3*y3*y3*d - x1*x2*x2*y2*y2*y2*y3*d + x1*x2*y2*y2*y2*y2*x3*y3*y3*d + y1*x2*x2*x2*x2*y2*y2*y2*x3*y3*y3*d*d + y1*x2*x2*x2*x2*y2*x3*y3*y3*d + y1*x2*x2*x2*y2*y2*y2*y2*x3*x3*y3*d*d + y1*x2*x2*x2*y2*y2*y3*y3*y3*d - y1*x2*x2*x2*y2*y2*y3*d - y1*x2*x2*y2*y2*y2*x3*x3*x3*d - y1*x2*x2*y2*y2*y2*x3*d - y1*x2*y2*y2*y2*y2*x3*x3*y3*d) * (y1 * y1 - x1 * x1 - (1 + d * x1 * x1 * y1 * y1)) + (x1*x1*x1*x2*x2*y2*x3*x3*y3*d + x1*x1*x1*x2*y2*y2*x3*y3*y3*d + x1*x1*x1*x2*x3*x3*x3*y3*y3*d + x1*x1*x1*x2*x3*x3*x3 - x1*x1*x1*x2*x3*y3*y3 + x1*x1*x1*x2*x3 + x1*x1*x1*y2*x3*x3*y3*y3*y3*d + x1*x1*x1*y2*x3*x3*y3 - x1*x1*x1*y2*y3*y3*y3 + x1*x1*x1*y2*y3 + x1*x1*y1*x2*x2*y2*x3*x3*x3*y3*y3*d*d - x1*x1*y1*x2*x2*y2*x3*y3*y3*d - x1*x1*y1*x2*y2*y2*x3*x3*y3*y3*y3*d*d - x1*x1*y1*x2*y2*y2*x3*x3*y3*d + x1*x1*y1*x2*x3*x3*y3*y3*y3*d + x1*x1*y1*x2*x3*x3*y3 - x1*x1*y1*x2*y3*y3*y3 + x1*x1*y1*x2*y3 + x1*x1*y1*y2*x3*x3*x3*y3*y3*d + x1*x1*y1*y2*x3*x3*x3 - x1*x1*y1*y2*x3*y3*y3 + x1*x1*y1*y2*x3 - x1*y1*y1*x2*x2*y2*x3*x3*y3*y3*y3*d*d - x1*y1*y1*x2*x2*y2*x3*x3*y3*d + x1*y1*y1*x2*y2*y2*x3*x3*x3*y3*y3*d*d - x1*y1*y1*x2*y2*y2*x3*y3*y3*d - x1*y1*y1*x2*x3*x3*x3*y3*y3*d - x1*y1*y1*x2*x3*x3*x3 + x1*y1*y1*x2*x3*y3*y3 - x1*y1*y1*x2*x3 - x1*y1*y1*y2*x3*x3*y3*y3*y3*d - x1*y1*y1*y2*x3*x3*y3 + x1*y1*y1*y2*y3*y3*y3 - x1*y1*y1*y2*y3 + x1*x2*x2*y2*x3*x3*y3*d + x1*x2*y2*y2*x3*y3*y3*d + x1*x2*x3*x3*x3*y3*y3*d + x1*x2*x3*x3*x3 - x1*x2*x3*y3*y3 + x1*x2*x3 + x1*y2*x3*x3*y3*y3*y3*d + x1*y2*x3*x3*y3 - x1*y2*y3*y3*y3 + x1*y2*y3 + y1*y1*y1*x2*x2*y2*x3*y3*y3*d + y1*y1*y1*x2*y2*y2*x3*x3*y3*d - y1*y1*y1*x2*x3*x3*y3*y3*y3*d - y1*y1*y1*x2*x3*x3*y3 + y1*y1*y1*x2*y3*y3*y3 - y1*y1*y1*x2*y3 - y1*y1*y1*y2*x3*x3*x3*y3*y3*d - y1*y1*y1*y2*x3*x3*x3 + y1*y1*y1*y2*x3*y3*y3 - y1*y1*y1*y2*x3 - y1*x2*x2*y2*x3*y3*y3*d - y1*x2*y2*y2*x3*x3*y3*d + y1*x2*x3*x3*y3*y3*y3*d + y1*x2*x3*x3*y3 - y1*x2*y3*y3*y3 + y1*x2*y3 + y1*y2*x3*x3*x3*y3*y3*d + y1*y2*x3*x3*x3 - y1*y2*x3*y3*y3 + y1*y2*x3) * (y2 * y2 - x2 * x2 - (1 + d * x2 * x2 * y2 * y2)) + (-x1*x1*x1*x2*x2*x2*x3 - x1*x1*x1*x2*x2*y2*y3 + x1*x1*x1*x2*y2*y2*x3 - x1*x1*x1*x2*x3 + x1*x1*x1*y2*y2*y2*y3 - x1*x1*x1*y2*y3 - x1*x1*y1*x2*x2*x2*y3 - x1*x1*y1*x2*x2*y2*x3*d - x1*x1*y1*x2*x2*y2*x3 + x1*x1*y1*x2*y2*y2*y3*d + x1*x1*y1*x2*y2*y2*y3 - x1*x1*y1*x2*y3 + x1*x1*y1*y2*y2*y2*x3 - x1*x1*y1*y2*x3 + x1*y1*y1*x2*x2*x2*x3 + x1*y1*y1*x2*x2*y2*y3*d + x1*y1*y1*x2*x2*y2*y3 - x1*y1*y1*x2*y2*y2*x3*d - x1*y1*y1*x2*y2*y2*x3 + x1*y1*y1*x2*x3 - x1*y1*y1*y2*y2*y2*y3 + x1*y1*y1*y2*y3 - x1*x2*x2*x2*x3 - x1*x2*x2*y2*y3 + x1*x2*y2*y2*x3 - x1*x2*x3 + x1*y2*y2*y2*y3 - x1*y2*y3 + y1*y1*y1*x2*x2*x2*y3 + y1*y1*y1*x2*x2*y2*x3 - y1*y1*y1*x2*y2*y2*y3 + y1*y1*y1*x2*y3 - y1*y1*y1*y2*y2*y2*x3 + y1*y1*y1*y2*x3 - y1*x2*x2*x2*y3 - y1*x2*x2*y2*x3 + y1*x2*y2*y2*y3 - y1*x2*y3 + y1*y2*y2*y2*x3 - y1*y2*x3) * (y3 * y3 - x3 * x3 - (1 + d * x3 * x3 * y3 * y3)) := by clear h1 h2 h3 g1 g2 g3; grind -lia -linarith
  rw [g1, g2, g3] at key
  grind -lia -linarith
set_option maxRecDepth 100000 in
theorem assoc_y {x1 y1 x2 y2 x3 y3 d : Fp} (h1 : y1 * y1 - x1 * x1 = 1 + d * x1 * x1 * y1 * y1) (h2 : y2 * y2 - x2 * x2 = 1 + d * x2 * x2 * y2 * y2) (h3 : y3 * y3 - x3 * x3 = 1 + d * x3 * x3 * y3 * y3) :
    ((y1 * y2 + x1 * x2) * (1 + d * x1 * x2 * y1 * y2) * y3 + (x1 * y2 + y1 * x2) * (1 - d * x1 * x2 * y1 * y2) * x3) * ((1 + d * x2 * x3 * y2 * y3) * (1 - d * x2 * x3 * y2 * y3) - d * x1 * y1 * (x2 * y3 + y2 * x3) * (y2 * y3 + x2 * x3)) =
    (y1 * (y2 * y3 + x2 * x3) * (1 + d * x2 * x3 * y2 * y3) + x1 * (x2 * y3 + y2 * x3) * (1 - d * x2 * x3 * y2 * y3)) * ((1 + d * x1 * x2 * y1 * y2) * (1 - d * x1 * x2 * y1 * y2) - d * (x1 * y2 + y1 * x2) * (y1 * y2 + x1 * x2) * x3 * y3) := by
  have g1 : y1 * y1 - x1 * x1 - (1 + d * x1 * x1 * y1 * y1) = 0 := by grind -lia -linarith
  have g2 : y2 * y2 - x2 * x2 - (1 + d * x2 * x2 * y2 * y2) = 0 := by grind -lia -linarith
  have g3 : y3 * y3 - x3 * x3 - (1 + d * x3 * x3 * y3 * y3) = 0 := by grind -lia -linarith
  have key : ((y1 * y2 + x1 * x2) * (1 + d * x1 * x2 * y1 * y2) * y3 + (x1 * y2 + y1 * x2) * (1 - d * x1 * x2 * y1 * y2) * x3) * ((1 + d * x2 * x3 * y2 * y3) * (1 - d * x2 * x3 * y2 * y3) - d * x1 * y1 * (x2 * y3 + y2 * x3) * (y2 * y3 + x2 * x3)) - ((y1 * (y2 * y3 + x2 * x3) * (1 + d * x2 * x3 * y2 * y3) + x1 * (x2 * y3 + y2 * x3) * (1 - d * x2 * x3 * y2 * y3)) * ((1 + d * x1 * x2 * y1 * y2) * (1 - d * x1 * x2 * y1 * y2) - d * (x1 * y2 + y1 * x2) * (y1 * y2 + x1 * x2) * x3 * y3)) =
    (x1*x2*x2*x2*x2*y2*y2*y2*x3*y3*y3*d*d + x1*x2*x2*x2*x2*y2*x3*y3*y3*d + x1*x2*x2*x2*y2*y2*y2*y2*x3*x3*y3*d*d + x1*x2*x2*x2*y2*y2*y3*y3*y3*d - x1*x2*x2*x2*y2*y2*y3*d - x1*x2*x2*y2*y2*y2*x3*x3*x3*d - x1*x2*x2*y2*y2*y2*x3*d - x1*x2*y2*y2*y2*y2*x3*x3*y3*d - y1*x2*x2*x2*x2*y2*y2*y2*x3*x3*y3*d*d - y1*x2*x2*x2*x2*y2*x3*x3*y3*d - y1*x2*x2*x2*y2*y2*y2*y2*x3*y3*y3*d*d - y1*x2*x2*x2*y2*y2*x3*x3*x3*d - y1*x2*x2*x2*y2*y2*x3*d + y1*x2*x2*y2*y2*y2*y3*y3*y3*d - y1*x2*x2*y2*y2*y2*y3*d + y1*x2*y2*y2*y2*y2*x3*y3*y3*d) * (y1 * y1 - x1 * x1 - (1 + d * x1 * x1 * y1 * y1)) + (-x1*x1*x1*x2*x2*y2*x3*y3*y3*d - x1*x1*x1*x2*y2*y2*x3*x3*y3*d + x1*x1*x1*x2*x3*x3*y3*y3*y3*d + x1*x1*x1*x2*x3*x3*y3 - x1*x1*x1*x2*y3*y3*y3 + x1*x1*x1*x2*y3 + x1*x1*x1*y2*x3*x3*x3*y3*y3*d + x1*x1*x1*y2*x3*x3*x3 - x1*x1*x1*y2*x3*y3*y3 + x1*x1*x1*y2*x3 + x1*x1*y1*x2*x2*y2*x3*x3*y3*y3*y3*d*d + x1*x1*y1*x2*x2*y2*x3*x3*y3*d - x1*x1*y1*x2*y2*y2*x3*x3*x3*y3*y3*d*d + x1*x1*y1*x2*y2*y2*x3*y3*y3*d + x1*x1*y1*x2*x3*x3*x3*y3*y3*d + x1*x1*y1*x2*x3*x3*x3 - x1*x1*y1*x2*x3*y3*y3 + x1*x1*y1*x2*x3 + x1*x1*y1*y2*x3*x3*y3*y3*y3*d + x1*x1*y1*y2*x3*x3*y3 - x1*x1*y1*y2*y3*y3*y3 + x1*x1*y1*y2*y3 - x1*y1*y1*x2*x2*y2*x3*x3*x3*y3*y3*d*d + x1*y1*y1*x2*x2*y2*x3*y3*y3*d + x1*y1*y1*x2*y2*y2*x3*x3*y3*y3*y3*d*d + x1*y1*y1*x2*y2*y2*x3*x3*y3*d - x1*y1*y1*x2*x3*x3*y3*y3*y3*d - x1*y1*y1*x2*x3*x3*y3 + x1*y1*y1*x2*y3*y3*y3 - x1*y1*y1*x2*y3 - x1*y1*y1*y2*x3*x3*x3*y3*y3*d - x1*y1*y1*y2*x3*x3*x3 + x1*y1*y1*y2*x3*y3*y3 - x1*y1*y1*y2*x3 - x1*x2*x2*y2*x3*y3*y3*d - x1*x2*y2*y2*x3*x3*y3*d + x1*x2*x3*x3*y3*y3*y3*d + x1*x2*x3*x3*y3 - x1*x2*y3*y3*y3 + x1*x2*y3 + x1*y2*x3*x3*x3*y3*y3*d + x1*y2*x3*x3*x3 - x1*y2*x3*y3*y3 + x1*y2*x3 - y1*y1*y1*x2*x2*y2*x3*x3*y3*d - y1*y1*y1*x2*y2*y2*x3*y3*y3*d - y1*y1*y1*x2*x3*x3*x3*y3*y3*d - y1*y1*y1*x2*x3*x3*x3 + y1*y1*y1*x2*x3*y3*y3 - y1*y1*y1*x2*x3 - y1*y1*y1*y2*x3*x3*y3*y3*y3*d - y1*y1*y1*y2*x3*x3*y3 + y1*y1*y1*y2*y3*y3*y3 - y1*y1*y1*y2*y3 + y1*x2*x2*y2*x3*x3*y3*d + y1*x2*y2*y2*x3*y3*y3*d + y1*x2*x3*x3*x3*y3*y3*d + y1*x2*x3*x3*x3 - y1*x2*x3*y3*y3 + y1*x2*x3 + y1*y2*x3*x3*y3*y3*y3*d + y1*y2*x3*x3*y3 - y1*y2*y3*y3*y3 + y1*y2*y3) * (y2 * y2 - x2 * x2 - (1 + d * x2 * x2 * y2 * y2)) + (-x1*x1*x1*x2*x2*x2*y3 - x1*x1*x1*x2*x2*y2*x3 + x1*x1*x1*x2*y2*y2*y3 - x1*x1*x1*x2*y3 + x1*x1*x1*y2*y2*y2*x3 - x1*x1*x1*y2*x3 - x1*x1*y1*x2*x2*x2*x3 - x1*x1*y1*x2*x2*y2*y3*d - x1*x1*y1*x2*x2*y2*y3 + x1*x1*y1*x2*y2*y2*x3*d + x1*x1*y1*x2*y2*y2*x3 - x1*x1*y1*x2*x3 + x1*x1*y1*y2*y2*y2*y3 - x1*x1*y1*y2*y3 + x1*y1*y1*x2*x2*x2*y3 + x1*y1*y1*x2*x2*y2*x3*d + x1*y1*y1*x2*x2*y2*x3 - x1*y1*y1*x2*y2*y2*y3*d - x1*y1*y1*x2*y2*y2*y3 + x1*y1*y1*x2*y3 - x1*y1*y1*y2*y2*y2*x3 + x1*y1*y1*y2*x3 - x1*x2*x2*x2*y3 - x1*x2*x2*y2*x3 + x1*x2*y2*y2*y3 - x1*x2*y3 + x1*y2*y2*y2*x3 - x1*y2*x3 + y1*y1*y1*x2*x2*x2*x3 + y1*y1*y1*x2*x2*y2*y3 - y1*y1*y1*x2*y2*y2*x3 + y1*y1*y1*x2*x3 - y1*y1*y1*y2*y2*y2*y3 + y1*y1*y1*y2*y3 - y1*x2*x2*x2*x3 - y1*x2*x2*y2*y3 + y1*x2*y2*y2*x3 - y1*x2*x3 + y1*y2*y2*y2*y3 - y1*y2*y3) * (y3 * y3 - x3 * x3 - (1 + d * x3 * x3 * y3 * y3)) := by clear h1 h2 h3 g1 g2 g3; grind -lia -linarith
  rw [g1, g2, g3] at key
  grind -lia -linarith
theorem frac {a b p q : Fp} (hp : p ≠ 0) (hq : q ≠ 0) (h : a * q = b * p) : a * inv p = b * inv q := by
  have h1 := mul_inv hp; have h2 := mul_inv hq
  have e1 : a * inv p = a * q * (inv p * inv q) := by grind -lia -linarith
  have e2 : b * inv q = b * p * (inv p * inv q) := by grind -lia -linarith
  rw [e1, e2, h]
theorem nest {n m p q a b : Fp} (hp : p ≠ 0) (hq : q ≠ 0) (s : Fp) :
    (n * inv p * b + m * inv q * a) = (n * q * b + m * p * a) * inv (p * q) ∧ s * (n * inv p) * a * (m * inv q) * b = s * n * a * m * b * inv (p * q) := by
  have h1 := mul_inv hp; have h2 := mul_inv hq; have h3 := mul_inv (mul_ne hp hq)
  generalize inv p = u at *
  generalize inv q = v at *
  generalize inv (p * q) = w at *
  have hw : w = u * v := by
    have : w = w * ((p * u) * (q * v)) := by rw [h1, h2]; grind -lia -linarith
    grind -lia -linarith
  subst hw
  constructor <;> grind -lia -linarith
theorem nestC {n m p q a b : Fp} (hp : p ≠ 0) (hq : q ≠ 0) : a * (m * inv q) + b * (n * inv p) = (a * m * p + b * n * q) * inv (p * q) := by
  have := (nest (n := n) (m := m) (a := a) (b := b) hp hq 0).1
  generalize inv p = u at *
  generalize inv q = v at *
  generalize inv (p * q) = w at *
  clear hp hq
  grind -lia -linarith
theorem nestP {n m p q a b : Fp} (hp : p ≠ 0) (hq : q ≠ 0) (s : Fp) : s * a * (n * inv p) * b * (m * inv q) = s * a * b * n * m * inv (p * q) := by
  have := (nest (n := n) (m := m) (a := a) (b := b) hp hq s).2
  generalize inv p = u at *
  generalize inv q = v at *
  generalize inv (p * q) = w at *
  clear hp hq
  grind -lia -linarith
theorem nestS {n m p q a b : Fp} (hp : p ≠ 0) (hq : q ≠ 0) : m * inv q * a + n * inv p * b = (m * p * a + n * q * b) * inv (p * q) := by
  have := (nest (n := n) (m := m) (a := a) (b := b) hp hq 0).1
  generalize inv p = u at *
  generalize inv q = v at *
  generalize inv (p * q) = w at *
  clear hp hq
  grind -lia -linarith
theorem half {n p q e : Fp} (hp : p ≠ 0) (hq : q ≠ 0) (hn : 1 + e * inv (p * q) ≠ 0) : p * q + e ≠ 0 ∧ (n * inv (p * q)) * inv (1 + e * inv (p * q)) = n * inv (p * q + e) := by
  have h3 := mul_inv (mul_ne hp hq)
  have h4 := mul_inv hn
  have e1 : p * q + e = p * q * (1 + e * inv (p * q)) := by grind -lia -linarith
  have h5 : p * q + e ≠ 0 := by rw [e1]; exact mul_ne (mul_ne hp hq) hn
  refine ⟨h5, ?_⟩
  have h6 : inv (p * q + e) = inv (p * q) * inv (1 + e * inv (p * q)) := inv_unique (by
    generalize inv (1 + e * inv (p * q)) = b at *
    generalize inv (p * q) = w at *
    grind -lia -linarith)
  rw [h6]; grind -lia -linarith
theorem sw5 (a b c e g : Fp) : a * b * c * e * g = a * b * e * c * g := by grind -lia -linarith
theorem neg1 (a b : Fp) : 1 - a * b = 1 + -a * b := by grind -lia -linarith
theorem negs (a b : Fp) : a + -b = a - b := by grind -lia -linarith
theorem padd_assoc {p q r : Pt} (hp : OnP p) (hq : OnP q) (hr : OnP r) : padd (padd p q) r = padd p (padd q r) := by
  have k1 := far1 hp hq; have k2 := far2 hp hq; have k3 := far1 hq hr; have k4 := far2 hq hr
  have k5 := far1 (on_add hp hq) hr; have k6 := far2 (on_add hp hq) hr; have k7 := far1 hp (on_add hq hr); have k8 := far2 hp (on_add hq hr)
  have hx := assoc_x (d := d) hp hq hr
  have hy := assoc_y (d := d) hp hq hr
  obtain ⟨x1, y1⟩ := p
  obtain ⟨x2, y2⟩ := q
  obtain ⟨x3, y3⟩ := r
  unfold padd at *
  simp only at *
  generalize hn1 : x1 * y2 + y1 * x2 = n1 at *
  generalize hn2 : y1 * y2 + x1 * x2 = n2 at *
  generalize hm1 : x2 * y3 + y2 * x3 = m1 at *
  generalize hm2 : y2 * y3 + x2 * x3 = m2 at *
  generalize hp1 : 1 + d * x1 * x2 * y1 * y2 = p1 at *
  generalize hp2 : 1 - d * x1 * x2 * y1 * y2 = p2 at *
  generalize hq1 : 1 + d * x2 * x3 * y2 * y3 = q1 at *
  generalize hq2 : 1 - d * x2 * x3 * y2 * y3 = q2 at *
  have a1 := (nest (n := n1) (m := n2) (a := x3) (b := y3) k1 k2 d).1
  have a2 := (nest (n := n1) (m := n2) (a := x3) (b := y3) k1 k2 d).2
  have b1 : x1 * (m2 * inv q2) + y1 * (m1 * inv q1) = (x1 * m2 * q1 + y1 * m1 * q2) * inv (q1 * q2) := nestC k3 k4
  have b2 : d * x1 * (m1 * inv q1) * y1 * (m2 * inv q2) = d * x1 * y1 * m1 * m2 * inv (q1 * q2) := nestP k3 k4 d
  have a3 : n2 * inv p2 * y3 + n1 * inv p1 * x3 = (n2 * p1 * y3 + n1 * p2 * x3) * inv (p1 * p2) := nestS k1 k2
  have b3 : y1 * (m2 * inv q2) + x1 * (m1 * inv q1) = (y1 * m2 * q1 + x1 * m1 * q2) * inv (q1 * q2) := nestC k3 k4
  rw [a2] at k5 k6
  rw [b2] at k7 k8
  have c6 := neg1 (d * n1 * x3 * n2 * y3) (inv (p1 * p2))
  have c8 := neg1 (d * x1 * y1 * m1 * m2) (inv (q1 * q2))
  rw [c6] at k6
  rw [c8] at k8
  rw [a1, a2, a3, b1, b2, b3, c6, c8]
  have f5 := half (n := n1 * p2 * y3 + n2 * p1 * x3) k1 k2 k5
  have f6 := half (n := n2 * p1 * y3 + n1 * p2 * x3) k1 k2 k6
  have f7 := half (n := x1 * m2 * q1 + y1 * m1 * q2) k3 k4 k7
  have f8 := half (n := y1 * m2 * q1 + x1 * m1 * q2) k3 k4 k8
  rw [f5.2, f6.2, f7.2, f8.2]
  refine Prod.ext ?_ ?_
  · refine frac f5.1 f7.1 ?_
    rw [sw5 d n1 x3 n2 y3]; exact hx
  · refine frac f6.1 f8.1 ?_
    rw [sw5 d n1 x3 n2 y3, negs, negs]; exact hy
def pmul : Nat → Pt → Pt
  | 0, _ => zero
  | n + 1, p => padd (pmul n p) p
theorem on_mul {p : Pt} (h : OnP p) : ∀ n, OnP (pmul n p)
  | 0 => on_zero
  | n + 1 => on_add (on_mul h n) h
theorem pmul_add {p : Pt} (h : OnP p) (m : Nat) : ∀ n, pmul (m + n) p = padd (pmul m p) (pmul n p)
  | 0 => (add_zero _).symm
  | n + 1 => by rw [← Nat.add_assoc, pmul, pmul_add h m n, pmul, padd_assoc (on_mul h m) (on_mul h n) h]
theorem pmul_mul {p : Pt} (h : OnP p) (m : Nat) : ∀ n, pmul (m * n) p = pmul n (pmul m p)
  | 0 => rfl
  | n + 1 => by rw [Nat.mul_succ, pmul_add h, pmul_mul h m n, pmul]
theorem pmul_one (p : Pt) : pmul 1 p = p := zero_add p
theorem pmul_zero (n : Nat) : pmul n zero = zero := by
  induction n with
  | zero => rfl
  | succ n ih => rw [pmul, ih, zero_add]
end Go.Ed
namespace Go.Eng
open Go Go.IntWalk
def ivF (k : IntKind) (f : Nat → Int) : Nat → Nat → List Value
  | _, 0 => []
  | i, n + 1 => .int k (f i) :: ivF k f (i + 1) n
abbrev iv (k : IntKind) (n : Nat) (f : Nat → Int) : List Value := ivF k f 0 n
def upd (f : Nat → Int) (i : Nat) (v : Int) : Nat → Int := fun j => bif Nat.beq j i then v else f j
theorem upd_same (f : Nat → Int) (i : Nat) (v : Int) : upd f i v i = v := by simp [upd]
theorem upd_other (f : Nat → Int) {i j : Nat} (v : Int) (h : j ≠ i) : upd f i v j = f j := by
  unfold upd
  have : Nat.beq j i = false := by
    cases hb : Nat.beq j i with
    | false => rfl
    | true => exact absurd (Nat.eq_of_beq_eq_true hb) h
  rw [this]; rfl
def vecN (l : List Int) : Nat → Int := fun i => l.getD i 0
@[simp] theorem ivF_length (k : IntKind) (f : Nat → Int) : ∀ (n i : Nat), (ivF k f i n).length = n
  | 0, _ => rfl
  | n + 1, i => by simp [ivF, ivF_length k f n]
theorem ivF_get (k : IntKind) (f : Nat → Int) : ∀ (n i j : Nat), j < n → (ivF k f i n)[j]? = some (.int k (f (i + j)))
  | 0, _, _, h => by omega
  | n + 1, i, 0, _ => rfl
  | n + 1, i, j + 1, h => by
    simp only [ivF, List.getElem?_cons_succ]
    rw [ivF_get k f n (i + 1) j (by omega), Nat.add_assoc, Nat.add_comm 1 j]
theorem iv_get {k : IntKind} {f : Nat → Int} {n j : Nat} (h : j < n) : (iv k n f)[j]? = some (.int k (f j)) := by rw [iv, ivF_get k f n 0 j h, Nat.zero_add]
theorem ivF_congr {k : IntKind} {f g : Nat → Int} : ∀ {n i : Nat}, (∀ j, i ≤ j → j < i + n → f j = g j) → ivF k f i n = ivF k g i n
  | 0, _, _ => rfl
  | n + 1, i, h => by simp only [ivF]; rw [h i (Nat.le_refl _) (by omega), ivF_congr (n := n) (i := i + 1) (fun j h1 h2 => h j (by omega) (by omega))]
theorem ivF_set (k : IntKind) (f : Nat → Int) (v : Int) : ∀ (n i j : Nat), (ivF k f i n).set j (.int k v) = ivF k (upd f (i + j) v) i n
  | 0, _, _ => rfl
  | n + 1, i, 0 => by
    simp only [ivF, List.set_cons_zero, Nat.add_zero]
    rw [upd_same]
    exact congrArg _ (ivF_congr (g := upd f i v) (fun j h1 h2 => (upd_other f v (by omega)).symm))
  | n + 1, i, j + 1 => by
    simp only [ivF, List.set_cons_succ]
    rw [upd_other f v (by omega), ivF_set k f v n (i + 1) j, Nat.add_assoc, Nat.add_comm 1 j]
theorem iv_set {k : IntKind} {f : Nat → Int} {n j : Nat} {v : Int} : (iv k n f).set j (.int k v) = iv k n (upd f j v) := by rw [iv, ivF_set, Nat.zero_add]
theorem ivF_one {k : IntKind} {f : Nat → Int} : ∀ {n i : Nat}, ∀ u ∈ ivF k f i n, u.oneCell' = true
  | 0, _, u, h => by cases h
  | n + 1, i, u, h => by
    simp only [ivF, List.mem_cons] at h
    rcases h with rfl | h
    · rfl
    · exact ivF_one u h
theorem ivF_rep (k : IntKind) (x : Int) : ∀ (n i : Nat), ivF k (fun _ => x) i n = List.replicate n (.int k x)
  | 0, _ => rfl
  | n + 1, i => by rw [ivF, ivF_rep k x n, List.replicate_succ]
def In (x lo hi : Int) : Prop := lo ≤ x ∧ x ≤ hi
def Le (a b : Int) : Prop := a ≤ b
instance (a b : Int) : Decidable (Le a b) := inferInstanceAs (Decidable (a ≤ b))
instance (x lo hi : Int) : Decidable (In x lo hi) := inferInstanceAs (Decidable (lo ≤ x ∧ x ≤ hi))
def Eqn (z e : Int) : Prop := z = e
def chk (lo hi a b : Int) : Bool := decide (lo ≤ a) && decide (b ≤ hi)
theorem chk_le {lo hi a b : Int} (h : chk lo hi a b = true) : lo ≤ a ∧ b ≤ hi := by simpa [chk] using h
theorem In.wk {x a b lo hi : Int} (h : In x a b) (hc : chk lo hi a b = true) : In x lo hi := by
  have := chk_le hc; unfold In at *; omega
def kmin : IntKind → Int
  | .i8 => -128 | .i16 => -32768 | .i32 => -2147483648 | .i64 => -9223372036854775808
  | _ => 0
def kmax : IntKind → Int
  | .i8 => 127 | .i16 => 32767 | .i32 => 2147483647 | .i64 => 9223372036854775807
  | .u8 => 255 | .u16 => 65535 | .u32 => 4294967295 | .u64 => 18446744073709551615
def kmod : IntKind → Int
  | .i8 | .u8 => 256 | .i16 | .u16 => 65536 | .i32 | .u32 => 4294967296 | .i64 | .u64 => 18446744073709551616
def fits (k : IntKind) (a b : Int) : Bool := decide (kmin k ≤ a) && decide (b ≤ kmax k)
theorem wrap_fit {k : IntKind} {x a b : Int} (h : In x a b) (hf : fits k a b = true) : k.wrap x = x := by
  simp only [fits, Bool.and_eq_true, decide_eq_true_eq] at hf
  unfold In at h
  cases k <;> simp only [kmin, kmax] at hf
  · exact IntWalk.i8_in _ (by omega)
  · exact IntWalk.i16_in _ (by omega)
  · exact IntWalk.i32_in _ (by omega)
  · exact IntWalk.i64_in _ (by omega)
  · exact IntWalk.u8_in _ (by omega)
  · exact IntWalk.u16_in _ (by omega)
  · exact IntWalk.u32_in _ (by omega)
  · exact IntWalk.u64_in _ (by omega)
def uns : IntKind → Bool
  | .u8 | .u16 | .u32 | .u64 => true
  | _ => false
theorem wrap_uns {k : IntKind} (hk : uns k = true) (x : Int) : k.wrap x = x % kmod k := by
  cases k <;> first | (exact absurd hk (by decide)) | (simp [IntKind.wrap, IntKind.bits, IntKind.signed, kmod])
theorem in_bif (b : Bool) : In (bif b then 1 else 0) 0 1 := by cases b <;> decide
theorem in_c (c : Int) : In c c c := ⟨Int.le_refl _, Int.le_refl _⟩
theorem in_add {x y a b c d : Int} (hx : In x a b) (hy : In y c d) : In (x + y) (a + c) (b + d) := by unfold In at *; omega
theorem in_sub {x y a b c d : Int} (hx : In x a b) (hy : In y c d) : In (x - y) (a - d) (b - c) := by unfold In at *; omega
theorem in_mul {x y a b c d : Int} (hx : In x a b) (hy : In y c d) (ha : 0 ≤ a) (hc : 0 ≤ c) : In (x * y) (a * c) (b * d) := by
  unfold In at *
  exact ⟨Int.mul_le_mul hx.1 hy.1 hc (by omega), Int.mul_le_mul hx.2 hy.2 (by omega) (by omega)⟩
theorem in_mulc {x a b c : Int} (hx : In x a b) (hc : 0 ≤ c) : In (x * c) (a * c) (b * c) := by
  unfold In at *
  exact ⟨Int.mul_le_mul_of_nonneg_right hx.1 hc, Int.mul_le_mul_of_nonneg_right hx.2 hc⟩
theorem in_cmul {x a b c : Int} (hx : In x a b) (hc : 0 ≤ c) : In (c * x) (c * a) (c * b) := by
  unfold In at *
  exact ⟨Int.mul_le_mul_of_nonneg_left hx.1 hc, Int.mul_le_mul_of_nonneg_left hx.2 hc⟩
theorem in_div {x a b m : Int} (hx : In x a b) (hm : 0 < m) : In (x / m) (a / m) (b / m) := by
  unfold In at *
  exact ⟨Int.ediv_le_ediv hm hx.1, Int.ediv_le_ediv hm hx.2⟩
theorem in_mod (x : Int) {m : Int} (hm : 0 < m) : In (x % m) 0 (m - 1) := by
  have := Int.emod_nonneg x (Int.ne_of_gt hm); have := Int.emod_lt_of_pos x hm
  unfold In; omega
theorem wraps_of {k : IntKind} (hk : uns k = true) : ∀ n : Int, 0 ≤ n → n < 2 ^ k.bits → k.wrap n = n := by
  intro n h0 h1
  rw [wrap_uns hk]
  have : kmod k = 2 ^ k.bits := by cases k <;> first | (exact absurd hk (by decide)) | rfl
  rw [this]; exact Int.emod_eq_of_lt h0 h1
theorem bits_in {k : IntKind} (hk : uns k = true) (op : BinOp) (x y : Int) : In (bits op k x y) 0 (kmax k) := by
  unfold bits
  simp only [wrap_uns hk]
  have h : kmax k = kmod k - 1 := by cases k <;> first | (exact absurd hk (by decide)) | rfl
  rw [h]
  exact in_mod _ (by cases k <;> decide)
def pw2 (s : Nat) : Int → Bool
  | .ofNat m => Nat.beq m (2 ^ s)
  | .negSucc _ => false
theorem pw2_eq {s : Nat} {m : Int} (h : pw2 s m = true) : m = 2 ^ s := by
  cases m with
  | ofNat m =>
    have := Nat.eq_of_beq_eq_true h
    subst this
    simp
  | negSucc m => cases h
theorem and_mod {k : IntKind} {x a b : Int} (s : Nat) {c m : Int} (hx : In x a b) (hf : fits k a b = true) (hk : uns k = true) (h0 : decide (0 ≤ a) = true) (hs : Nat.ble s k.bits = true) (hc : pw2 s (c + 1) = true) (hm0 : pw2 s m = true) : bits .and k x c = x % m := by
  have hm := pw2_eq hm0
  have hc := pw2_eq hc
  subst hm
  obtain rfl : c = 2 ^ s - 1 := by omega
  have hb : x < 2 ^ k.bits := by
    have : kmax k + 1 = 2 ^ k.bits := by cases k <;> first | (exact absurd hk (by decide)) | rfl
    simp only [fits, Bool.and_eq_true, decide_eq_true_eq] at hf
    unfold In at hx; omega
  have h0' := of_decide_eq_true h0
  exact bits_mask k k.bits (Nat.le_refl _) (wraps_of hk) s (Nat.le_of_ble_eq_true hs) x (by unfold In at hx; omega) hb
theorem or_join {k : IntKind} {x y a b c d : Int} (s : Nat) {m : Int} (hx : In x a b) (hfx : fits k a b = true) (hy : In y c d) (hk : uns k = true) (h0 : decide (0 ≤ a) = true) (h1 : decide (0 ≤ c) = true) (hm0 : pw2 s m = true) (hxm : x % m = 0) (hd : decide (d < m) = true) (hs : Nat.ble s k.bits = true) : bits .or k x y = x + y := by
  have hm := pw2_eq hm0
  subst hm
  have hkm : kmax k + 1 = 2 ^ k.bits := by cases k <;> first | (exact absurd hk (by decide)) | rfl
  simp only [fits, Bool.and_eq_true, decide_eq_true_eq] at hfx
  have h0' := of_decide_eq_true h0
  have h1' := of_decide_eq_true h1
  have hd' := of_decide_eq_true hd
  unfold In at hx hy
  have hle : (2 : Int) ^ s ≤ 2 ^ k.bits := by
    have := Nat.pow_le_pow_right (show 0 < 2 by decide) (Nat.le_of_ble_eq_true hs)
    exact_mod_cast this
  exact bits_join k k.bits (Nat.le_refl _) (wraps_of hk) s x y (by omega) hxm (by omega) (by omega) (by omega) (by omega)
theorem bits_or_comm' (k : IntKind) (x y : Int) : bits .or k x y = bits .or k y x := by simp only [bits, BitVec.or_comm]
theorem or_join' {k : IntKind} {x y a b c d : Int} (s : Nat) {m : Int} (hx : In x a b) (hfx : fits k a b = true) (hy : In y c d) (hk : uns k = true) (h0 : decide (0 ≤ a) = true) (h1 : decide (0 ≤ c) = true) (hm0 : pw2 s m = true) (hxm : x % m = 0) (hd : decide (d < m) = true) (hs : Nat.ble s k.bits = true) : bits .or k y x = y + x := by
  rw [bits_or_comm', or_join s hx hfx hy hk h0 h1 hm0 hxm hd hs, Int.add_comm]
theorem mul_mod_mod (a : Int) {m M : Int} (h : M % m = 0) : a * m % M % m = 0 := by
  rw [Int.emod_emod_of_dvd _ (Int.dvd_of_emod_eq_zero h), Int.mul_emod_left]
theorem eq_mod {x e m : Int} (h : x = e) (he : e % m = 0) : x % m = 0 := by rw [h]; exact he
section
variable {P : Program} {n : Nat} {f : Fr} {w : World} {ty : TypeId} {fin : Exit → Act → World → Prop} {k : List KI} {ops : Array Oper} {l : List Oper}
theorem ow_gx {op : Op} {d : Nat} {pos : String} {aft : Array Edge} {kd : IntKind} {e e' lo hi : Int} (hr : Gives P n f w op ty (.int kd e) w) (he : e = e') (hb : In e' lo hi) (hd : Nat.blt d n = true)
    (h : ∀ z, Eqn z e' → In z lo hi → OW P fin n k ops l ((d, .int kd z) :: f) w) : OW P fin n k ops (⟨some d, op, ty, pos, aft, none⟩ :: l) f w := by
  subst he; exact ow_g hr hd (h _ rfl hb)
theorem g_shrp {k k' : IntKind} {t u : TypeId} {x y : Operand} {i j m : Int} (hx : f.ev x = some (.int k i)) (hy : f.ev y = some (.int k' j)) (h : 0 ≤ j ∧ j ≤ k.bits) (hm : pw2 j.toNat m = true) :
    Gives P n f w (.binOp .shr t x y u) ty (.int k (i / m)) w := by have := pw2_eq hm; subst this; exact g_shr hx hy h
theorem g_shlp {k k' : IntKind} {t u : TypeId} {x y : Operand} {i j m : Int} (hx : f.ev x = some (.int k i)) (hy : f.ev y = some (.int k' j)) (h : 0 ≤ j ∧ j ≤ k.bits) (hm : pw2 j.toNat m = true) :
    Gives P n f w (.binOp .shl t x y u) ty (.int k (k.wrap (i * m))) w := by have := pw2_eq hm; subst this; exact g_shl hx hy h
theorem g_ixa {x y : Operand} {t e : TypeId} {m : Nat} {zs : List Value} {s b : Nat} {blk o : Nat} {kd : IntKind} {i : Int} (ht : P.underlying t = some (.array m e)) (he : Ty P e zs s b)
    (hx : f.ev x = some (.pointer (some ⟨blk, o, none⟩))) (hy : f.ev y = some (.int kd i)) (h : 0 ≤ i ∧ i < m) :
    Gives P n f w (.indexAddr t x y) ty (.pointer (some ⟨blk, o + i.toNat * s, none⟩)) w := by
  intro a ha dst pos aft g
  simp [execOp, ha.ev hx, ha.ev hy, Instr.indexAt, asIntOf, run_underlying ht, he.sizeOf, h.1, h.2, Instr.sureAddr, Addr.add_lit]
theorem g_ixv {x y : Operand} {t e : TypeId} {m : Nat} {zs cs : List Value} {b : Nat} {kd : IntKind} {i : Int} {u : Value} (ht : P.underlying t = some (.array m e)) (he : Ty P e zs 1 b) (hsc : scB P e = true)
    (hx : f.ev x = some (.agg cs.toArray)) (hy : f.ev y = some (.int kd i)) (h : 0 ≤ i ∧ i < m) (hc : cs[i.toNat]? = some u) :
    Gives P n f w (.index t x y) ty u w := by
  intro a ha dst pos aft g
  simp [execOp, ha.ev hx, ha.ev hy, Instr.index, asIntOf, run_underlying ht, he.sizeOf, h.1, h.2, part, run_isAgg hsc, hc]
theorem g_ixva {x y : Operand} {t e : TypeId} {m : Nat} {zs cs cs' : List Value} {s b : Nat} {kd : IntKind} {i : Int} (ht : P.underlying t = some (.array m e)) (he : Ty P e zs s b) (hag : agB P e = true)
    (hx : f.ev x = some (.agg cs.toArray)) (hy : f.ev y = some (.int kd i)) (h : 0 ≤ i ∧ i < m) (hc : (cs.drop (i.toNat * s)).take s = cs') :
    Gives P n f w (.index t x y) ty (.agg cs'.toArray) w := by
  intro a ha dst pos aft g
  subst hc
  simp [execOp, ha.ev hx, ha.ev hy, Instr.index, asIntOf, run_underlying ht, he.sizeOf, h.1, h.2, part, run_isAgg' hag, List.extract_eq_take_drop]
end
end Go.Eng
namespace Go.Fld
open Go Go.Eng Go.Ed
theorem fp_lt (x : Int) : (x % (P : Int)).toNat < P := by
  have h1 := Int.emod_lt_of_pos x (show (0 : Int) < (P : Int) by decide)
  have h2 := Int.emod_nonneg x (show (P : Int) ≠ 0 by decide)
  omega
def fp (x : Int) : Fp := ⟨(x % (P : Int)).toNat, fp_lt x⟩
theorem fp_val (x : Int) : ((fp x).val : Int) = x % (P : Int) := by
  have h2 := Int.emod_nonneg x (show (P : Int) ≠ 0 by decide)
  show ((x % (P : Int)).toNat : Int) = _
  omega
theorem fp_ext {a b : Fp} (h : (a.val : Int) = b.val) : a = b := Fin.ext (by omega)
theorem fp_eq {a b : Int} (c : Int) (h : a = b + c * 57896044618658097711785492504343953926634992332820282019728792003956564819949) : fp a = fp b := by
  apply fp_ext
  rw [fp_val, fp_val, h]
  exact Int.add_mul_emod_self_right _ _ _
theorem fp_add (a b : Int) : fp (a + b) = fp a + fp b := by
  apply fp_ext
  rw [fp_val, val_add]
  rw [Int.natCast_emod, Int.natCast_add, fp_val, fp_val, ← Int.add_emod]
theorem fp_mul (a b : Int) : fp (a * b) = fp a * fp b := by
  apply fp_ext
  rw [fp_val, val_mul]
  rw [Int.natCast_emod, Int.natCast_mul, fp_val, fp_val, ← Int.mul_emod]
theorem fp_self (a : Fp) : fp (a.val : Int) = a := by
  apply fp_ext
  rw [fp_val]
  have := a.isLt
  exact Int.emod_eq_of_lt (by omega) (by omega)
theorem fp_sub (a b : Int) : fp (a - b) = fp a - fp b := by
  have h : fp (a - b) + fp b = fp a := by rw [← fp_add, Int.sub_add_cancel]
  grind -lia -linarith
theorem val_of {a : Fp} {x : Int} (h : fp x = a) (h0 : 0 ≤ x) (h1 : x < 57896044618658097711785492504343953926634992332820282019728792003956564819949) : (a.val : Int) = x := by
  subst h
  rw [fp_val]; exact Int.emod_eq_of_lt h0 h1
def leI : List UInt8 → Int
  | [] => 0
  | b :: r => (b.toNat : Int) + 256 * leI r
def leB (n : Int) : Nat → List UInt8
  | 0 => []
  | k + 1 => UInt8.ofNat (n % 256).toNat :: leB (n / 256) k
@[simp] theorem leB_length : ∀ (n : Int) (k : Nat), (leB n k).length = k
  | _, 0 => rfl
  | n, k + 1 => by simp [leB, leB_length _ k]
theorem leI_bound : ∀ xs : List UInt8, 0 ≤ leI xs ∧ leI xs < 256 ^ xs.length
  | [] => by simp [leI]
  | b :: r => by
    have ih := leI_bound r
    have := b.toNat_lt
    simp only [leI, List.length_cons, Int.pow_succ]
    omega
theorem leI_leB : ∀ (k : Nat) (n : Int), 0 ≤ n → n < 256 ^ k → leI (leB n k) = n
  | 0, n, h0, h1 => by simp at h1; simp [leB, leI]; omega
  | k + 1, n, h0, h1 => by
    rw [Int.pow_succ] at h1
    simp only [leB, leI]
    rw [leI_leB k (n / 256) (by omega) (by omega)]
    have : (UInt8.ofNat (n % 256).toNat).toNat = (n % 256).toNat := by simp; omega
    rw [this]; omega
theorem leB_inj {a b : Int} {k : Nat} (h : leB a k = leB b k) (a0 : 0 ≤ a) (a1 : a < 256 ^ k) (b0 : 0 ≤ b) (b1 : b < 256 ^ k) : a = b := by
  rw [← leI_leB k a a0 a1, h, leI_leB k b b0 b1]
def fpB (a : Fp) : List UInt8 := leB (a.val : Int) 32
@[simp] theorem fpB_length (a : Fp) : (fpB a).length = 32 := leB_length _ _
theorem fpB_inj {a b : Fp} (h : fpB a = fpB b) : a = b := by
  have h1 : a.val < 57896044618658097711785492504343953926634992332820282019728792003956564819949 := a.isLt
  have h2 : b.val < 57896044618658097711785492504343953926634992332820282019728792003956564819949 := b.isLt
  have e : (256 : Int) ^ 32 = 115792089237316195423570985008687907853269984665640564039457584007913129639936 := by decide
  exact fp_ext (leB_inj h (by omega) (by rw [e]; omega) (by omega) (by rw [e]; omega))
theorem carry_bounds {f0 f1 f2 f3 f4 c0 c1 c2 c3 c4 h0 h1 h2 h3 h4 b0 b1 b2 b3 b4 t : Int} (e0 : c0 = f0 / 2251799813685248) (e1 : c1 = (f1 + c0) / 2251799813685248) (e2 : c2 = (f2 + c1) / 2251799813685248) (e3 : c3 = (f3 + c2) / 2251799813685248) (e4 : c4 = (f4 + c3) / 2251799813685248)
    (g0 : h0 = f0 % 2251799813685248 + 19 * c4) (g1 : h1 = (f1 + c0) % 2251799813685248) (g2 : h2 = (f2 + c1) % 2251799813685248) (g3 : h3 = (f3 + c2) % 2251799813685248) (g4 : h4 = (f4 + c3) % 2251799813685248)
    (r0 : In f0 0 b0) (r1 : In f1 0 b1) (r2 : In f2 0 b2) (r3 : In f3 0 b3) (r4 : In f4 0 b4)
    (ht : 2251799813685247 + 19 * ((b4 + (b3 + (b2 + (b1 + b0 / 2251799813685248) / 2251799813685248) / 2251799813685248) / 2251799813685248) / 2251799813685248) = t) :
    In h0 0 t ∧ In h1 0 2251799813685247 ∧ In h2 0 2251799813685247 ∧ In h3 0 2251799813685247 ∧ In h4 0 2251799813685247 := by
  unfold In at *
  omega
def val5 (f : Nat → Int) : Int := f 0 + f 1 * 2251799813685248 + f 2 * 5070602400912917605986812821504 + f 3 * 11417981541647679048466287755595961091061972992 + f 4 * 25711008708143844408671393477458601640355247900524685364822016
def El (f : Nat → Int) (a : Fp) : Prop :=
  In (f 0) 0 4503599627370495 ∧ In (f 1) 0 4503599627370495 ∧ In (f 2) 0 4503599627370495 ∧ In (f 3) 0 4503599627370495 ∧ In (f 4) 0 4503599627370495 ∧ fp (val5 f) = a
theorem mul_val5 (f g : Nat → Int) : val5 f * val5 g =
    (f 0 * g 0 + 19 * (f 1 * g 4) + 19 * (f 2 * g 3) + 19 * (f 3 * g 2) + 19 * (f 4 * g 1)) + (f 0 * g 1 + f 1 * g 0 + 19 * (f 2 * g 4) + 19 * (f 3 * g 3) + 19 * (f 4 * g 2)) * 2251799813685248 +
    (f 0 * g 2 + f 1 * g 1 + f 2 * g 0 + 19 * (f 3 * g 4) + 19 * (f 4 * g 3)) * 5070602400912917605986812821504 + (f 0 * g 3 + f 1 * g 2 + f 2 * g 1 + f 3 * g 0 + 19 * (f 4 * g 4)) * 11417981541647679048466287755595961091061972992 +
    (f 0 * g 4 + f 1 * g 3 + f 2 * g 2 + f 3 * g 1 + f 4 * g 0) * 25711008708143844408671393477458601640355247900524685364822016 +
    (f 1 * g 4 + f 2 * g 3 + f 3 * g 2 + f 4 * g 1 + (f 2 * g 4 + f 3 * g 3 + f 4 * g 2) * 2251799813685248 + (f 3 * g 4 + f 4 * g 3) * 5070602400912917605986812821504 + f 4 * g 4 * 11417981541647679048466287755595961091061972992) * 57896044618658097711785492504343953926634992332820282019728792003956564819949 := by
  unfold val5
  generalize f 0 = x0; generalize f 1 = x1; generalize f 2 = x2; generalize f 3 = x3; generalize f 4 = x4
  generalize g 0 = y0; generalize g 1 = y1; generalize g 2 = y2; generalize g 3 = y3; generalize g 4 = y4
  grind -lia -linarith
theorem mul_fp {f g h : Nat → Int} {a b : Fp} (hf : fp (val5 f) = a) (hg : fp (val5 g) = b) (c t0 t1 t2 t3 t4 : Int)
    (e0 : t0 = f 0 * g 0 + 19 * (f 1 * g 4) + 19 * (f 2 * g 3) + 19 * (f 3 * g 2) + 19 * (f 4 * g 1)) (e1 : t1 = f 0 * g 1 + f 1 * g 0 + 19 * (f 2 * g 4) + 19 * (f 3 * g 3) + 19 * (f 4 * g 2))
    (e2 : t2 = f 0 * g 2 + f 1 * g 1 + f 2 * g 0 + 19 * (f 3 * g 4) + 19 * (f 4 * g 3)) (e3 : t3 = f 0 * g 3 + f 1 * g 2 + f 2 * g 1 + f 3 * g 0 + 19 * (f 4 * g 4)) (e4 : t4 = f 0 * g 4 + f 1 * g 3 + f 2 * g 2 + f 3 * g 1 + f 4 * g 0)
    (hh : val5 h + c * 57896044618658097711785492504343953926634992332820282019728792003956564819949 = t0 + t1 * 2251799813685248 + t2 * 5070602400912917605986812821504 + t3 * 11417981541647679048466287755595961091061972992 + t4 * 25711008708143844408671393477458601640355247900524685364822016) : fp (val5 h) = a * b := by
  rw [← hf, ← hg, ← fp_mul, mul_val5, ← e0, ← e1, ← e2, ← e3, ← e4]
  refine fp_eq (-c - (f 1 * g 4 + f 2 * g 3 + f 3 * g 2 + f 4 * g 1 + (f 2 * g 4 + f 3 * g 3 + f 4 * g 2) * 2251799813685248 + (f 3 * g 4 + f 4 * g 3) * 5070602400912917605986812821504 + f 4 * g 4 * 11417981541647679048466287755595961091061972992)) ?_
  generalize f 1 * g 4 + f 2 * g 3 + f 3 * g 2 + f 4 * g 1 + (f 2 * g 4 + f 3 * g 3 + f 4 * g 2) * 2251799813685248 + (f 3 * g 4 + f 4 * g 3) * 5070602400912917605986812821504 + f 4 * g 4 * 11417981541647679048466287755595961091061972992 = q
  omega
end Go.Fld
namespace Go.Eng
open Go Go.IntWalk
end Go.Eng
namespace Go.Eng
open Go Go.IntWalk
section
variable {P : Program} {n : Nat} {f : Fr} {w : World} {ty : TypeId} {fin : Exit → Act → World → Prop} {k : List KI} {ops : Array Oper} {tl l : List Oper}
def SW (P : Program) (fin : Exit → Act → World → Prop) (n : Nat) (k : List KI) (ops : Array Oper) (tl : List Oper) (l : List Oper) (f : Fr) (w : World) : Prop :=
  ∀ a, Kn n f a → wpStill P ops w (fun a' => wpList P ops (KQ P fin k) tl a' w) l a
theorem tw_still {id : Nat} {l : List Oper} (m : Nat) (hm : P.follows .mixedOrders = true) (hB : Region.lexTailB .any l.toArray m = true)
    (h : ∀ w1, Keep [] w w1 → SW P fin n k l.toArray (l.drop m) (l.take m) f w1) : TW P fin n (.c (.region id l.toArray true) :: k) f w :=
  fun a ha => wp_region_still_tail m hm hB (h _ (keep_drew w) a ha)
theorem tw_stillA {id : Nat} {l : List Oper} (hm : P.follows .mixedOrders = true) (hB : Region.lexB .any l.toArray = true)
    (h : ∀ w1, Keep [] w w1 → SW P fin n k l.toArray [] l f w1) : TW P fin n (.c (.region id l.toArray true) :: k) f w :=
  fun a ha => wp_region_still_lit hm hB (h _ (keep_drew w) a ha)
theorem sw_nil (h : OW P fin n k ops tl f w) : SW P fin n k ops tl [] f w := fun a ha => wpStill_nil (h a ha)
theorem sw_g {op : Op} {d : Nat} {pos : String} {aft : Array Edge} {v : Value} (hr : Gives P n f w op ty v w) (hd : Nat.blt d n = true)
    (h : SW P fin n k ops tl l ((d, v) :: f) w) : SW P fin n k ops tl (⟨some d, op, ty, pos, aft, none⟩ :: l) f w := by
  intro a ha
  refine wpStill_step fun K hK => ?_
  rw [if_pos (by simp [Region.wanted])]
  unfold Oper.still
  rw [hr a ha, Oper.stillUpon_value]
  exact hK _ (h _ (ha.put (blt_lt hd) v))
theorem sw_gx {op : Op} {d : Nat} {pos : String} {aft : Array Edge} {kd : IntKind} {e e' lo hi : Int} (hr : Gives P n f w op ty (.int kd e) w) (he : e = e') (hb : In e' lo hi) (hd : Nat.blt d n = true)
    (h : ∀ z, Eqn z e' → In z lo hi → SW P fin n k ops tl l ((d, .int kd z) :: f) w) : SW P fin n k ops tl (⟨some d, op, ty, pos, aft, none⟩ :: l) f w := by
  subst he; exact sw_g hr hd (h _ rfl hb)
theorem sw_gz {op : Op} {d : Nat} {pos : String} {aft : Array Edge} {kd : IntKind} {e e' : Int} (hr : Gives P n f w op ty (.int kd e) w) (he : e = e') (hd : Nat.blt d n = true)
    (h : ∀ z, Eqn z e' → SW P fin n k ops tl l ((d, .int kd z) :: f) w) : SW P fin n k ops tl (⟨some d, op, ty, pos, aft, none⟩ :: l) f w := by
  subst he; exact sw_g hr hd (h _ rfl)
theorem still_call {i : FuncId} {args : Array Operand} {ats : Array TypeId} {vs : List Value} {v : Value} {dst : Option Tmp} {pos : String} {aft : Array Edge} {g : Option (Nat × Bool)} {a : Act} {K : Act → Prop} (ha : Kn n f a)
    (hx : f.evs args.toList = some vs) (hc : Rets P i vs w (fun v' w' => v' = v ∧ w = w')) (h : K (a.put dst v)) : Oper.still P ⟨dst, .call { callee := .value (.func i), args := args, argTypes := ats }, ty, pos, aft, g⟩ a w K := by
  obtain ⟨⟨fn, hf, hb, hnm⟩, hcalls⟩ := hc
  have hb' : fn.body.isNone = false := by cases h : fn.body <;> simp_all
  have hm : args.map a.eval = vs.toArray := by rw [← Array.toList_inj]; simp [ha.evs hx]
  have hr : (execOp a.eval ⟨dst, .call { callee := .value (.func i), args := args, argTypes := ats }, ty, pos, aft, g⟩).run P w = .ok (.enter i vs.toArray) w := by
    have hcf : (callFunc i vs.toArray).run P w = .ok (.enter i vs.toArray) w := by
      simp only [callFunc, Sem.run_bind, run_program, Result.andThen_ok, hf, hnm, Bool.false_eq_true, if_false, hb', Sem.run_pure]
    simp [execOp, resolve, Deferred.ofValue, Act.eval, invoke, hm, hcf]
  unfold Oper.still
  rw [hr]
  exact ⟨rfl, v, Calls.mono hcalls fun e w' ⟨v', he, hv, hw⟩ => ⟨by rw [he, hv], hw.symm⟩, h⟩
theorem sw_call {d : Nat} {pos : String} {aft : Array Edge} {i : FuncId} {args : Array Operand} {ats : Array TypeId} {vs : List Value} {v : Value} (hx : f.evs args.toList = some vs) (hc : Rets P i vs w (fun v' w' => v' = v ∧ w = w')) (hd : Nat.blt d n = true)
    (h : SW P fin n k ops tl l ((d, v) :: f) w) : SW P fin n k ops tl (⟨some d, .call { callee := .value (.func i), args := args, argTypes := ats }, ty, pos, aft, none⟩ :: l) f w := by
  intro a ha
  refine wpStill_step fun K hK => ?_
  rw [if_pos (by simp [Region.wanted])]
  exact still_call ha hx hc (hK _ (h _ (ha.put (blt_lt hd) v)))
end
end Go.Eng
namespace Go.Eng
open Go Go.IntWalk
section
variable {P : Program} {n : Nat}
def PStep (P : Program) (n : Nat) (ops : Array Oper) (o : Oper) (f1 : Fr) (w : World) (R : Value → World → Prop) : Prop :=
  ∀ a, Kn n f1 a → ∀ (K : Act → World → Prop) (Q : Exit → Act → World → Prop), (∀ v w', R v w' → K (a.put o.dst v) w') →
    (Region.wanted o (yielded ops a.tmps) = true → Oper.wp P o a w K Q) ∧ (Region.wanted o (yielded ops a.tmps) = false → K (a.put o.dst undef) w)
def depB (l : List Oper) (i j : Nat) : Bool := match l[i]? with
  | none => false
  | some o => o.after.toList.any fun e => e.on == j && Region.binds .any e
def slotsOk (l : List Oper) (p i : Nat) (f1 : Fr) : Bool :=
  f1.all fun q => (List.range p).all (fun j => !hasDst l j || dstOf l j != q.1) || (List.range p).any (fun j => depB l i j && (hasDst l j && dstOf l j == q.1))
def eager (l : List Oper) (cb : Nat → Bool) : List Nat → Bool
  | [] => true
  | c :: r => !r.contains c && (!cb c || r.all fun i => (c :: r).any fun j => depB l i j) && eager l cb r
def planOk (n : Nat) (l : List Oper) (p : Nat) (plan : List Nat) (cb : Nat → Bool) : Bool :=
  drawOk n l && tailOk l p && plan.all (fun i => Nat.blt i p && hasDst l i) && (List.range p).all (fun i => plan.contains i) && eager l cb plan
def PW (P : Program) (n : Nat) (l : List Oper) (p : Nat) (T : List Nat) (cb : Nat → Bool) (Fin : Fr → World → Prop) : List Nat → Fr → World → Prop
  | [], f, w => Fin f w
  | i :: r, f, w => ∃ o f1, l[i]? = some o ∧ Fr.sub f1 f ∧ slotsOk l p i f1 = true ∧
    ((cb i = true ∧ PStep P n l.toArray o f1 w (fun v w' => Keep T w w' ∧ PW P n l p T cb Fin r ((dstOf l i, v) :: f) w')) ∨
     (cb i = false ∧ ∃ v, (∀ w', Keep T w w' → PStep P n l.toArray o f1 w' (fun v' w'' => v' = v ∧ w'' = w')) ∧ PW P n l p T cb Fin r ((dstOf l i, v) :: f) w))
theorem PStep.mono {ops : Array Oper} {o : Oper} {f1 : Fr} {w : World} {R R' : Value → World → Prop} (h : PStep P n ops o f1 w R) (hr : ∀ v w', R v w' → R' v w') : PStep P n ops o f1 w R' :=
  fun a ha K Q hK => h a ha K Q (fun v w' hv => hK v w' (hr v w' hv))
theorem sub_get : ∀ {f1 f : Fr}, Fr.sub f1 f → ∀ t u, f1.get t = some u → f.get t = some u
  | [], _, _, t, u, h => by cases h
  | (k, v) :: r, f, ⟨h1, h2⟩, t, u, h => by
    simp only [Fr.get] at h
    by_cases e : Nat.beq k t = true
    · rw [e] at h
      simp only [cond_true, Option.some.injEq] at h
      have e' : k = t := Nat.eq_of_beq_eq_true e
      subst e' h; exact h1
    · have e' : Nat.beq k t = false := eq_false_of_ne_true e
      rw [e'] at h
      exact sub_get h2 t u h
theorem get_mem : ∀ {f1 : Fr} {t : Nat} {u : Value}, f1.get t = some u → ∃ q, q ∈ f1 ∧ q.1 = t
  | [], t, u, h => by cases h
  | (k, v) :: r, t, u, h => by
    simp only [Fr.get] at h
    by_cases e : Nat.beq k t = true
    · exact ⟨(k, v), by simp, Nat.eq_of_beq_eq_true e⟩
    · have e' : Nat.beq k t = false := eq_false_of_ne_true e
      rw [e'] at h
      obtain ⟨q, hq, hq'⟩ := get_mem (f1 := r) h
      exact ⟨q, by simp [hq], hq'⟩
theorem get_dep {l : List Oper} {vs : Nat → Value} {f0 : Fr} : ∀ {pre : List Nat} {t : Nat} {u : Value}, (depFr l vs pre ++ f0).get t = some u → (∃ j, j ∈ pre ∧ dstOf l j = t ∧ vs j = u) ∨ f0.get t = some u
  | [], t, u, h => .inr h
  | j :: r, t, u, h => by
    simp only [depFr, List.cons_append, Fr.get] at h
    by_cases e : Nat.beq (dstOf l j) t = true
    · rw [e] at h
      simp only [cond_true, Option.some.injEq] at h
      exact .inl ⟨j, by simp, Nat.eq_of_beq_eq_true e, h⟩
    · have e' : Nat.beq (dstOf l j) t = false := eq_false_of_ne_true e
      rw [e'] at h
      rcases get_dep (pre := r) h with ⟨i, hi, h1, h2⟩ | h1
      · exact .inl ⟨i, by simp [hi], h1, h2⟩
      · exact .inr h1
theorem eager_split {l : List Oper} {cb : Nat → Bool} : ∀ {pre rest : List Nat}, eager l cb (pre ++ rest) = true → eager l cb rest = true ∧ (∀ i, i ∈ pre → i ∉ rest)
  | [], _, h => ⟨h, fun i hi => by cases hi⟩
  | c :: r, rest, h => by
    simp only [List.cons_append, eager, Bool.and_eq_true] at h
    obtain ⟨h1, h2⟩ := eager_split (pre := r) h.2
    refine ⟨h1, fun i hi hm => ?_⟩
    rcases List.mem_cons.1 hi with rfl | hi
    · have := h.1.1
      simp [hm] at this
    · exact h2 i hi hm
theorem draw_distinct {l : List Oper} (hok : drawOk n l = true) {i j : Nat} (hi : i < l.length) (hj : j < l.length) (hdi : hasDst l i = true) (hdj : hasDst l j = true) (he : dstOf l i = dstOf l j) : i = j := by
  have h1 := List.all_eq_true.1 hok i (List.mem_range.2 hi)
  have hget : l[i]? = some l[i] := List.getElem?_eq_getElem hi
  simp only [hget, Bool.and_eq_true] at h1
  have h2 := h1.2
  have hs : l[i].dst.isSome = true := by
    unfold hasDst at hdi; rw [hget] at hdi; simpa using hdi
  rw [hs, Bool.not_true, Bool.false_or] at h2
  have h3 := List.all_eq_true.1 h2 j (List.mem_range.2 hj)
  simp only [Bool.or_eq_true, beq_iff_eq, bne_iff_ne, ne_eq, Bool.not_eq_true'] at h3
  rcases h3 with (h3 | h3) | h3
  · exact h3
  · exact absurd he h3
  · rw [hdj] at h3; cases h3
section
variable {l : List Oper} {p : Nat} {T : List Nat} {cb : Nat → Bool} {Fin : Fr → World → Prop} {f0 : Fr}
def Lk (l : List Oper) (f0 : Fr) (pre : List Nat) (vs : Nat → Value) (i : Nat) (f1 : Fr) : Prop :=
  ∀ t u, f1.get t = some u → (∃ j, j ∈ pre ∧ depB l i j = true ∧ dstOf l j = t ∧ vs j = u) ∨ f0.get t = some u
theorem lk_of {n : Nat} (hok : drawOk n l = true) (hpl : p ≤ l.length) {pre : List Nat} {vs : Nat → Value} {i : Nat} {f1 : Fr} (hpre : ∀ j, j ∈ pre → j < p ∧ hasDst l j = true) (hs : Fr.sub f1 (depFr l vs pre.reverse ++ f0)) (h : slotsOk l p i f1 = true) : Lk l f0 pre vs i f1 := by
  intro t u ht
  rcases get_dep (sub_get hs t u ht) with ⟨j, hj, h1, h2⟩ | h1
  · have hj' : j ∈ pre := by simpa using hj
    obtain ⟨q, hq, hq'⟩ := get_mem ht
    have h3 := List.all_eq_true.1 h q hq
    simp only [Bool.or_eq_true] at h3
    rcases h3 with h3 | h3
    · have h4 := List.all_eq_true.1 h3 j (List.mem_range.2 (hpre j hj').1)
      rw [(hpre j hj').2, hq'] at h4
      simp [h1] at h4
    · obtain ⟨j', hj1, h5⟩ := List.any_eq_true.1 h3
      simp only [Bool.and_eq_true, beq_iff_eq] at h5
      have hlt := List.mem_range.1 hj1
      have : j = j' := draw_distinct hok (Nat.lt_of_lt_of_le (hpre j hj').1 hpl) (Nat.lt_of_lt_of_le hlt hpl) (hpre j hj').2 h5.2.1 (by rw [h1, h5.2.2, hq'])
      subst this
      exact .inl ⟨j, hj', h5.1, h1, h2⟩
  · exact .inr h1
def RdOk (P : Program) (n : Nat) (l : List Oper) (T : List Nat) (f0 : Fr) (pre : List Nat) (vs : Nat → Value) (w : World) (i : Nat) : Prop :=
  ∃ o f1, l[i]? = some o ∧ Lk l f0 pre vs i f1 ∧ ∀ w', Keep T w w' → PStep P n l.toArray o f1 w' (fun v' w'' => v' = vs i ∧ w'' = w')
theorem Lk.mono {pre pre' : List Nat} {vs vs' : Nat → Value} {i : Nat} {f1 : Fr} (h : Lk l f0 pre vs i f1) (hm : ∀ j, j ∈ pre → j ∈ pre' ∧ vs' j = vs j) : Lk l f0 pre' vs' i f1 := by
  intro t u ht
  rcases h t u ht with ⟨j, h1, h2, h3, h4⟩ | h1
  · exact .inl ⟨j, (hm j h1).1, h2, h3, by rw [(hm j h1).2, h4]⟩
  · exact .inr h1
theorem RdOk.mono {pre pre' : List Nat} {vs vs' : Nat → Value} {w w' : World} {i : Nat} (h : RdOk P n l T f0 pre vs w i) (hi : i ∈ pre) (hm : ∀ j, j ∈ pre → j ∈ pre' ∧ vs' j = vs j) (hk : Keep T w w') : RdOk P n l T f0 pre' vs' w' i := by
  obtain ⟨o, f1, h1, h2, h3⟩ := h
  refine ⟨o, f1, h1, h2.mono hm, fun w2 hk2 => ?_⟩
  rw [(hm i hi).2]
  exact h3 w2 (hk.trans hk2)
def setV (vs : Nat → Value) (i : Nat) (v : Value) : Nat → Value := fun j => bif Nat.beq j i then v else vs j
theorem setV_same (vs : Nat → Value) (i : Nat) (v : Value) : setV vs i v i = v := by simp [setV]
theorem setV_other (vs : Nat → Value) {i j : Nat} (v : Value) (h : j ≠ i) : setV vs i v j = vs j := by
  unfold setV
  cases hb : Nat.beq j i with
  | false => rfl
  | true => exact absurd (Nat.eq_of_beq_eq_true hb) h
theorem depFr_setV {vs : Nat → Value} {i : Nat} {v : Value} : ∀ {pre : List Nat}, i ∉ pre → depFr l (setV vs i v) pre = depFr l vs pre
  | [], _ => rfl
  | j :: r, h => by
    simp only [depFr]
    rw [setV_other vs v (fun e => h (by simp [e])), depFr_setV (pre := r) (fun hm => h (by simp [hm]))]
theorem absorb {n : Nat} (hok : drawOk n l = true) (hpl : p ≤ l.length) : ∀ (rest pre : List Nat) (vs : Nat → Value) (w : World), eager l cb (pre ++ rest) = true → (∀ j, j ∈ pre ++ rest → j < p ∧ hasDst l j = true) → PW P n l p T cb Fin rest (depFr l vs pre.reverse ++ f0) w →
    (∀ i, i ∈ pre → cb i = false → RdOk P n l T f0 pre vs w i) → ∃ pre' rest' vs', pre ++ rest = pre' ++ rest' ∧ (∀ i, i ∈ pre → i ∈ pre' ∧ vs' i = vs i) ∧ (∀ i, i ∈ pre' → i ∈ pre ∨ cb i = false) ∧ (∀ c r, rest' = c :: r → cb c = true) ∧
      PW P n l p T cb Fin rest' (depFr l vs' pre'.reverse ++ f0) w ∧ ∀ i, i ∈ pre' → cb i = false → RdOk P n l T f0 pre' vs' w i
  | [], pre, vs, w, _, _, h, hr => ⟨pre, [], vs, rfl, fun i hi => ⟨hi, rfl⟩, fun i hi => .inl hi, (fun c r h => by cases h), h, hr⟩
  | i :: r, pre, vs, w, he, hb, h, hr => by
    have h0 := h
    unfold PW at h
    obtain ⟨o, f1, h1, h2, h3, h4⟩ := h
    rcases h4 with ⟨hc, _⟩ | ⟨hc, v, h5, h6⟩
    · exact ⟨pre, i :: r, vs, rfl, fun i hi => ⟨hi, rfl⟩, fun i hi => .inl hi, (fun c r h => by cases h; exact hc), h0, hr⟩
    · have hni : i ∉ pre := fun hm => (eager_split he).2 i hm (by simp)
      have hlk := lk_of (f0 := f0) hok hpl (fun j hj => hb j (by simp [hj])) h2 h3
      have hm : ∀ j, j ∈ pre → j ∈ pre ++ [i] ∧ setV vs i v j = vs j := fun j hj => ⟨by simp [hj], setV_other vs v (fun e => hni (e ▸ hj))⟩
      have hnr : i ∉ pre.reverse := by simpa using hni
      obtain ⟨pre', rest', vs', k1, k2, k3, k4, k5, k6⟩ := absorb hok hpl r (pre ++ [i]) (setV vs i v) w (by simpa using he) (by simpa using hb)
        (by rw [List.reverse_append, List.reverse_singleton, List.singleton_append, depFr, setV_same, depFr_setV hnr]; exact h6)
        (fun j hj hcj => by
          rcases List.mem_append.1 hj with h | h
          · exact (hr j h hcj).mono h hm (Keep.refl _ _)
          · rw [List.mem_singleton] at h
            subst h
            refine ⟨o, f1, h1, hlk.mono hm, fun w2 hk2 => ?_⟩
            rw [setV_same]; exact h5 w2 hk2)
      refine ⟨pre', rest', vs', by simpa using k1, fun j hj => ?_, fun j hj => ?_, k4, k5, k6⟩
      · obtain ⟨q1, q2⟩ := k2 j (hm j hj).1
        exact ⟨q1, q2.trans (hm j hj).2⟩
      · rcases k3 j hj with h | h
        · rcases List.mem_append.1 h with h | h
          · exact .inl h
          · rw [List.mem_singleton] at h; subst h; exact .inr hc
        · exact .inr h
theorem kn_lk {pre : List Nat} {vs : Nat → Value} {i : Nat} {f1 : Fr} {a : Act} (hk : Kn n f0 a) (hl : Lk l f0 pre vs i f1) (hd : ∀ j, depB l i j = true → j ∈ pre → a.tmps.getD (dstOf l j) undef = vs j) : Kn n f1 a := by
  refine ⟨hk.size, hk.defers, fun t u ht => ?_⟩
  rcases hl t u ht with ⟨j, h1, h2, h3, h4⟩ | h1
  · rw [← h3, ← h4]; exact hd j h2 h1
  · exact hk.get t u h1
end
variable {fin : Exit → Act → World → Prop} {k : List KI} {f : Fr} {w : World}
theorem tw_plan {id : Nat} {l : List Oper} (p : Nat) (plan : List Nat) (cs : List Nat) (T : List Nat) (hm : P.follows .mixedOrders = true) (f0 : Fr) (hf : Fr.sub f0 f) (hok : planOk n l p plan (fun i => cs.contains i) = true) (hfree0 : freeOk (l.take p) f0 = true)
    (h : ∀ w1, Keep [] w w1 → PW P n l p T (fun i => cs.contains i) (fun f' w' => OW P fin n k l.toArray (l.drop p) f' w') plan f0 w1) :
    TW P fin n (.c (.region id l.toArray true) :: k) f w := by
  intro a ha
  simp only [KQ]
  have ha0 := ha.sub hf
  simp only [planOk, Bool.and_eq_true] at hok
  obtain ⟨⟨⟨⟨hdr, ht⟩, hall⟩, hcov⟩, heag⟩ := hok
  have hpl : p ≤ l.length := by simp only [tailOk, Bool.and_eq_true] at ht; exact Nat.le_of_ble_eq_true ht.1
  have hplan : ∀ j, j ∈ plan → j < p ∧ hasDst l j = true := by
    intro j hj
    have := List.all_eq_true.1 hall j hj
    simp only [Bool.and_eq_true] at this
    exact ⟨blt_lt this.1, this.2⟩
  have hmem : ∀ j, j < p → j ∈ plan := by
    intro j hj
    have := List.all_eq_true.1 hcov j (List.mem_range.2 hj)
    simpa using this
  have hfree : ∀ i, i < p → hasDst l i = true → f0.get (dstOf l i) = none := by
    intro i hi hd
    have e1 : dstOf (l.take p) i = dstOf l i := by unfold dstOf; rw [List.getElem?_take, if_pos hi]
    have e2 : hasDst (l.take p) i = hasDst l i := by unfold hasDst; rw [List.getElem?_take, if_pos hi]
    rw [← e1]
    exact get_none_of_free (l := l.take p) (by rw [List.length_take]; omega) (by rw [e2]; exact hd) hfree0
  refine wp_region_any hm ?_
  have key : ∀ (fuel : Nat) (listed : Array Bool) (a : Act) (w' : World), listed.size = l.length → left l.length listed ≤ fuel → Kn n f0 a → (∀ i, p ≤ i → i < l.length → listed.getD i false = false) → (∀ i, listed.getD i false = true → i < p) →
      (∃ pre rest vs, plan = pre ++ rest ∧ (∀ c r, rest = c :: r → cs.contains c = true) ∧ PW P n l p T (fun i => cs.contains i) (fun f' w' => OW P fin n k l.toArray (l.drop p) f' w') rest (depFr l vs pre.reverse ++ f0) w' ∧
        (∀ i, i ∈ pre → cs.contains i = false → RdOk P n l T f0 pre vs w' i) ∧ (∀ i, i ∈ pre → cs.contains i = true → listed.getD i false = true) ∧ (∀ i, listed.getD i false = true → i ∈ pre ∧ a.tmps.getD (dstOf l i) undef = vs i)) →
      wpAny P .any l.toArray (KQ P fin k) fuel listed a w' := by
    intro fuel
    induction fuel with
    | zero =>
      intro listed a w' hs hle hk hun hlp hst
      have hlist : ∀ i, i < l.length → listed.getD i false = true := by
        intro i hi
        cases hc : listed.getD i false with
        | true => rfl
        | false =>
          exfalso
          have := left_set hi hs (by rw [getD_lists hs hi true false]; exact hc)
          omega
      have hpe : p = l.length := by
        rcases Nat.lt_or_ge p l.length with h1 | h1
        · have := hun p (Nat.le_refl _) h1; rw [hlist p h1] at this; cases this
        · omega
      obtain ⟨pre, rest, vs, h1, h2, h3, h4, h5, h6⟩ := hst
      have hrest : rest = [] := by
        cases rest with
        | nil => rfl
        | cons c r =>
          exfalso
          have hc := hplan c (by rw [h1]; simp)
          have := (h6 c (hlist c (by omega))).1
          exact (eager_split (pre := pre) (h1 ▸ heag)).2 c this (by simp)
      subst hrest
      refine wpAny_tail hdr ht 0 p 0 listed a w' (by omega) hpl (Nat.le_refl _) (Nat.le_refl _) hs (fun i hi => by rw [hlist i hi]; simp; omega) ?_
      refine h3 a (Kn.app ?_ hk)
      intro q hq
      obtain ⟨j, hj, rfl⟩ := mem_depFr hq
      have hj' : j ∈ pre := by simpa using hj
      exact (h6 j (hlist j (by have := (hplan j (by rw [h1]; simp [hj'])).1; omega))).2
    | succ fuel ih =>
      intro listed a w' hs hle hk hun hlp hst
      obtain ⟨pre, rest, vs, h1, h2, h3, h4, h5, h6⟩ := hst
      by_cases hfull : ∀ i, i < p → listed.getD i false = true
      · have hrest : rest = [] := by
          cases rest with
          | nil => rfl
          | cons c r =>
            exfalso
            have hc := hplan c (by rw [h1]; simp)
            have := (h6 c (hfull c hc.1)).1
            exact (eager_split (pre := pre) (h1 ▸ heag)).2 c this (by simp)
        subst hrest
        refine wpAny_tail hdr ht (l.length - p) p (fuel + 1) listed a w' rfl hpl (Nat.le_refl _) ?_ hs (fun i hi => ?_) ?_
        · refine Nat.le_trans ?_ hle
          unfold left
          have e1 : l.length - p = ((List.range' p (l.length - p)).countP fun i => !listed.getD i true) := by
            rw [List.countP_eq_length.2 (fun i hi => ?_)]
            · simp
            · rw [List.mem_range'_1] at hi
              rw [getD_lists hs (by omega) true false, hun i (by omega) (by omega)]; rfl
          rw [e1]
          have e2 : List.range l.length = List.range p ++ List.range' p (l.length - p) := by
            have e3 := List.range'_append_1 (s := 0) (m := p) (n := l.length - p)
            rw [Nat.zero_add] at e3
            rw [List.range_eq_range', List.range_eq_range', e3]; congr 1; omega
          rw [e2, List.countP_append]; omega
        · by_cases hip : i < p
          · rw [hfull i hip]; simp [hip]
          · rw [hun i (by omega) hi]; simp [hip]
        · refine h3 a (Kn.app ?_ hk)
          intro q hq
          obtain ⟨j, hj, rfl⟩ := mem_depFr hq
          have hj' : j ∈ pre := by simpa using hj
          exact (h6 j (hfull j (hplan j (by rw [h1]; simp [hj'])).1)).2
      · obtain ⟨q, hq⟩ := Classical.not_forall.1 hfull
        obtain ⟨hq1, hq2⟩ := Classical.not_imp.1 hq
        have hq2 : listed.getD q false = false := eq_false_of_ne_true hq2
        refine ⟨fun hr => (by
          have := all_listed hdr rfl hs hr q (by omega)
          rw [hq2] at this; cases this), fun i hi => ?_⟩
        obtain ⟨h0, o, ho, hedge⟩ := mem_ready.1 hi
        have ho' : l[i]? = some o := by simpa using ho
        have hlt : i < l.length := (List.getElem?_eq_some_iff.1 ho').1
        have hdepl : ∀ j, depB l i j = true → listed.getD j false = true := by
          intro j hj
          simp only [depB, ho'] at hj
          obtain ⟨e, he, h7⟩ := List.any_eq_true.1 hj
          simp only [Bool.and_eq_true, beq_iff_eq] at h7
          have := hedge e (Array.mem_toList_iff.1 he) h7.2
          rwa [h7.1] at this
        have hip : i < p := by
          rcases Nat.lt_or_ge i p with h7 | h7
          · exact h7
          · exfalso
            obtain ⟨e, he, h8, h9⟩ := tail_dep ht hlt h7 (Nat.lt_of_lt_of_le hq1 h7) ho'
            have := hedge e he h9
            rw [h8, hq2] at this; cases this
        have hil : listed.getD i false = false := by rw [getD_lists hs hlt false true]; exact h0
        have hid : hasDst l i = true := (hplan i (hmem i hip)).2
        obtain ⟨d, hod⟩ : ∃ d, o.dst = some d := by
          unfold hasDst at hid; rw [ho'] at hid
          cases hd : o.dst with
          | none => rw [Option.bind_some, hd] at hid; cases hid
          | some d => exact ⟨d, rfl⟩
        have hdd : dstOf l i = d := by simp [dstOf, ho', hod]
        have hdn : d < n := by
          have h8 := List.all_eq_true.1 hdr i (List.mem_range.2 hlt)
          simp only [ho', Bool.and_eq_true] at h8
          rw [hdd] at h8
          exact blt_lt h8.1.1
        have hleft := left_set hlt hs h0
        have hun' : ∀ j, p ≤ j → j < l.length → (listed.setIfInBounds i true).getD j false = false := fun j h1 h2 => by rw [getD_set_ne false (by omega)]; exact hun j h1 h2
        have hlp' : ∀ j, (listed.setIfInBounds i true).getD j false = true → j < p := by
          intro j hj
          by_cases hij : i = j
          · subst hij; exact hip
          · rw [getD_set_ne false hij] at hj; exact hlp j hj
        have hput : ∀ v, (a.put o.dst v).tmps.getD (dstOf l i) undef = v := by
          intro v
          rw [hdd, hod]; simp [Act.put, Array.getD_eq_getD_getElem?, hk.size, hdn]
        have hputo : ∀ v j, j < p → hasDst l j = true → i ≠ j → (a.put o.dst v).tmps.getD (dstOf l j) undef = a.tmps.getD (dstOf l j) undef := by
          intro v j hj hdj hij
          have hne : d ≠ dstOf l j := fun e => hij (draw_distinct hdr hlt (by omega) hid hdj (by rw [hdd, e]))
          rw [hod]
          simp only [Act.put, Array.getD_eq_getD_getElem?]; rw [Array.getElem?_setIfInBounds_ne hne]
        have hkput : ∀ v, Kn n f0 (a.put o.dst v) := by
          intro v
          rw [hod]
          exact hk.putOther (by rw [← hdd]; exact hfree i hip hid) v
        have hpm := hmem i hip
        rw [h1] at hpm
        have hpredep : ∀ j, depB l i j = true → j ∈ pre → a.tmps.getD (dstOf l j) undef = vs j := fun j hj _ => (h6 j (hdepl j hj)).2
        have step : ∀ f1, Kn n f1 a → ∀ R : Value → World → Prop, PStep P n l.toArray o f1 w' R → (∀ v w2, R v w2 → wpAny P .any l.toArray (KQ P fin k) fuel (listed.setIfInBounds i true) (a.put o.dst v) w2) → wpOp P l.toArray (KQ P fin k) i (wpAny P .any l.toArray (KQ P fin k) fuel (listed.setIfInBounds i true)) a w' := by
          intro f1 hkf R hp hn
          obtain ⟨p1, p2⟩ := hp a hkf (wpAny P .any l.toArray (KQ P fin k) fuel (listed.setIfInBounds i true)) (KQ P fin k) hn
          unfold wpOp
          rw [ho]
          simp only
          by_cases hw : Region.wanted o (yielded l.toArray a.tmps) = true
          · rw [if_pos hw]; exact .inl (p1 hw)
          · rw [if_neg hw]; exact p2 (eq_false_of_ne_true hw)
        rcases List.mem_append.1 hpm with hpre | hrs
        · have hcb : cs.contains i = false := by
            cases hc : cs.contains i with
            | false => rfl
            | true => have := h5 i hpre hc; rw [hil] at this; cases this
          obtain ⟨o2, f1, g1, g2, g3⟩ := h4 i hpre hcb
          rw [ho'] at g1
          simp only [Option.some.injEq] at g1
          subst g1
          refine step f1 (kn_lk hk g2 hpredep) _ (g3 w' (Keep.refl _ _)) ?_
          rintro v w2 ⟨rfl, rfl⟩
          refine ih _ _ _ (by simpa using hs) (by omega) (hkput _) hun' hlp' ⟨pre, rest, vs, h1, h2, h3, h4, fun j hj hc => ?_, fun j hj => ?_⟩
          · by_cases hij : i = j
            · subst hij; rw [hcb] at hc; cases hc
            · rw [getD_set_ne false hij]; exact h5 j hj hc
          · by_cases hij : i = j
            · subst hij; exact ⟨hpre, hput _⟩
            · rw [getD_set_ne false hij] at hj
              obtain ⟨m1, m2⟩ := h6 j hj
              have hpj := hplan j (by rw [h1]; simp [m1])
              exact ⟨m1, by rw [hputo _ j hpj.1 hpj.2 hij]; exact m2⟩
        · cases rest with
          | nil => cases hrs
          | cons c r =>
            have hcc := h2 c r rfl
            rw [h1] at heag
            obtain ⟨he1, he2⟩ := eager_split heag
            rcases List.mem_cons.1 hrs with hic | hir
            · subst hic
              have h30 := h3
              unfold PW at h30
              obtain ⟨o2, f1, g1, g2, g3, g4⟩ := h30
              rw [ho'] at g1
              simp only [Option.some.injEq] at g1
              subst g1
              rcases g4 with ⟨_, g4⟩ | ⟨g4, _⟩
              · have hlk := lk_of (f0 := f0) hdr hpl (fun j hj => hplan j (by rw [h1]; simp [hj])) g2 g3
                refine step f1 (kn_lk hk hlk hpredep) _ g4 ?_
                rintro v w2 ⟨hkw, hpw⟩
                have hni : i ∉ pre := fun hm => he2 i hm (by simp)
                have hnr : i ∉ pre.reverse := by simpa using hni
                have hmm : ∀ j, j ∈ pre → j ∈ pre ++ [i] ∧ setV vs i v j = vs j := fun j hj => ⟨by simp [hj], setV_other vs v (fun e => hni (e ▸ hj))⟩
                obtain ⟨pre', rest', vs', k1, k2, k3, k4, k5, k6⟩ := absorb (f0 := f0) (T := T) (cb := fun i => cs.contains i) hdr hpl r (pre ++ [i]) (setV vs i v) w2 (by rw [List.append_assoc, List.singleton_append]; exact heag) (by rw [List.append_assoc, List.singleton_append, ← h1]; exact hplan)
                  (by rw [List.reverse_append, List.reverse_singleton, List.singleton_append, depFr, setV_same, depFr_setV hnr]; exact hpw)
                  (fun j hj hcj => by
                    rcases List.mem_append.1 hj with h | h
                    · exact (h4 j h hcj).mono h hmm hkw
                    · rw [List.mem_singleton] at h
                      subst h; rw [hcc] at hcj; cases hcj)
                have hsame : ∀ j, j ∈ pre → j ∈ pre' ∧ vs' j = vs j := fun j hj => ⟨(k2 j (hmm j hj).1).1, ((k2 j (hmm j hj).1).2).trans (hmm j hj).2⟩
                have hci := k2 i (by simp)
                rw [setV_same] at hci
                refine ih _ _ _ (by simpa using hs) (by omega) (hkput _) hun' hlp' ⟨pre', rest', vs', by rw [← k1, h1]; simp, k4, k5, k6, fun j hj hc => ?_, fun j hj => ?_⟩
                · by_cases hij : i = j
                  · subst hij
                    rw [Array.getD_eq_getD_getElem?]; simp [hs, hlt]
                  · rw [getD_set_ne false hij]
                    rcases k3 j hj with h | h
                    · rcases List.mem_append.1 h with h | h
                      · exact h5 j h hc
                      · rw [List.mem_singleton] at h; exact absurd h.symm hij
                    · rw [hc] at h; cases h
                · by_cases hij : i = j
                  · subst hij; exact ⟨hci.1, by rw [hput, hci.2]⟩
                  · rw [getD_set_ne false hij] at hj
                    obtain ⟨m1, m2⟩ := h6 j hj
                    have hpj := hplan j (by rw [h1]; simp [m1])
                    exact ⟨(hsame j m1).1, by rw [hputo _ j hpj.1 hpj.2 hij, (hsame j m1).2]; exact m2⟩
              · rw [hcc] at g4; cases g4
            · exfalso
              simp only [eager, Bool.and_eq_true] at he1
              have h7 := he1.1.2
              rw [hcc, Bool.not_true, Bool.false_or] at h7
              have h8 := List.all_eq_true.1 h7 i hir
              obtain ⟨j, hj, hdj⟩ := List.any_eq_true.1 h8
              exact he2 j (h6 j (hdepl j hdj)).1 hj
  obtain ⟨pre', rest', vs', k1, k2, k3, k4, k5, k6⟩ := absorb (f0 := f0) (T := T) hdr hpl plan [] (fun _ => undef) _ heag hplan (h _ (keep_drew w)) (fun i hi => by cases hi)
  refine key _ _ a _ (by simp) ?_ ha0 ?_ ?_ ⟨pre', rest', vs', k1, k4, k5, k6, fun i hi hc => ?_, fun i hi => ?_⟩
  · unfold left
    have := List.countP_le_length (p := fun i => !(Array.replicate l.toArray.size false).getD i true) (l := List.range l.length)
    simpa using this
  · intro i _ hi
    rw [Array.getD_eq_getD_getElem?, Array.getElem?_eq_getElem (by simpa using hi)]; simp
  · intro i hi
    exfalso
    rw [Array.getD_eq_getD_getElem?] at hi
    rcases Nat.lt_or_ge i l.toArray.size with h' | h'
    · rw [Array.getElem?_eq_getElem (by simpa using h')] at hi; simp at hi
    · rw [Array.getElem?_eq_none (by simpa using h')] at hi; simp at hi
  · rcases k3 i hi with h | h
    · cases h
    · rw [hc] at h; cases h
  · exfalso
    rw [Array.getD_eq_getD_getElem?] at hi
    rcases Nat.lt_or_ge i l.toArray.size with h' | h'
    · rw [Array.getElem?_eq_getElem (by simpa using h')] at hi; simp at hi
    · rw [Array.getElem?_eq_none (by simpa using h')] at hi; simp at hi
end
end Go.Eng
namespace Go.Eng
open Go Go.IntWalk
section
variable {P : Program} {n : Nat} {f : Fr} {w : World} {ty : TypeId} {fin : Exit → Act → World → Prop} {k : List KI} {l : List Oper} {p : Nat} {T cs r : List Nat} {Fin : Fr → World → Prop} {i : Nat}
theorem arr_pls (m se : Nat) : ∀ (i : Nat) (x : Nat × Nat), ((List.range m).map fun i => (i * se, se))[i]? = some x → some (i * se, se) = some x := by
  intro i x h
  rw [List.getElem?_map] at h
  rcases Nat.lt_or_ge i m with hi | hi
  · rw [List.getElem?_range hi] at h; simpa using h
  · rw [List.getElem?_eq_none (by simpa using hi)] at h; cases h
theorem g_callv {j : FuncId} {args : Array Operand} {ats : Array TypeId} {vs : List Value} {v : Value} (hx : f.evs args.toList = some vs) (hc : ∀ w, (callFunc j vs.toArray).run P w = .ok (.value v) w) :
    Gives P n f w (.call { callee := .value (.func j), args := args, argTypes := ats }) ty v w := by
  intro a ha dst pos aft g
  have hm : args.map a.eval = vs.toArray := by rw [← Array.toList_inj]; simp [ha.evs hx]
  simp [execOp, resolve, Deferred.ofValue, Act.eval, invoke, hm, hc]
theorem dstOf_at {d : Nat} {op : Op} {pos : String} {aft : Array Edge} {g : Option (Nat × Bool)} (ho : l[i]? = some ⟨some d, op, ty, pos, aft, g⟩) : dstOf l i = d := by unfold dstOf; rw [ho]; rfl
theorem pw_nil (h : OW P fin n k l.toArray (l.drop p) f w) : PW P n l p T (fun i => cs.contains i) (fun f' w' => OW P fin n k l.toArray (l.drop p) f' w') [] f w := by unfold PW; exact h
theorem pstep_g {f1 : Fr} {ops : Array Oper} {d : Nat} {op : Op} {pos : String} {aft : Array Edge} {v : Value} (hr : Gives P n f1 w op ty v w) : PStep P n ops ⟨some d, op, ty, pos, aft, none⟩ f1 w (fun v' w'' => v' = v ∧ w'' = w) := by
  intro a ha K Q hK
  refine ⟨fun _ => ?_, fun h => by simp [Region.wanted] at h⟩
  unfold Oper.wp
  rw [hr a ha]
  exact hK _ _ ⟨rfl, rfl⟩
theorem pw_g (f1 : Fr) {op : Op} {d : Nat} {pos : String} {aft : Array Edge} {v : Value} (ho : l[i]? = some ⟨some d, op, ty, pos, aft, none⟩) (hc : cs.contains i = false) (hs : Fr.sub f1 f) (hk : slotsOk l p i f1 = true)
    (hr : ∀ w', Keep T w w' → Gives P n f1 w' op ty v w') (h : PW P n l p T (fun i => cs.contains i) Fin r ((d, v) :: f) w) : PW P n l p T (fun i => cs.contains i) Fin (i :: r) f w := by
  unfold PW
  exact ⟨_, f1, ho, hs, hk, .inr ⟨hc, v, fun w' hw => pstep_g (hr w' hw), by rw [dstOf_at ho]; exact h⟩⟩
theorem pw_gx (f1 : Fr) {op : Op} {d : Nat} {pos : String} {aft : Array Edge} {kd : IntKind} {e e' lo hi : Int} (ho : l[i]? = some ⟨some d, op, ty, pos, aft, none⟩) (hc : cs.contains i = false) (hs : Fr.sub f1 f) (hk : slotsOk l p i f1 = true)
    (hr : ∀ w', Keep T w w' → Gives P n f1 w' op ty (.int kd e) w') (he : e = e') (hb : In e' lo hi) (h : ∀ z, Eqn z e' → In z lo hi → PW P n l p T (fun i => cs.contains i) Fin r ((d, .int kd z) :: f) w) : PW P n l p T (fun i => cs.contains i) Fin (i :: r) f w := by
  subst he; exact pw_g f1 ho hc hs hk hr (h _ rfl hb)
theorem pw_d (f1 : Fr) {op : Op} {d : Nat} {pos : String} {aft : Array Edge} {R : Value → World → Prop} (ho : l[i]? = some ⟨some d, op, ty, pos, aft, none⟩) (hc : cs.contains i = true) (hs : Fr.sub f1 f) (hk : slotsOk l p i f1 = true)
    (hr : Does P n f1 w op ty R) (h : ∀ v w', R v w' → Keep T w w' ∧ PW P n l p T (fun i => cs.contains i) Fin r ((d, v) :: f) w') : PW P n l p T (fun i => cs.contains i) Fin (i :: r) f w := by
  unfold PW
  refine ⟨_, f1, ho, hs, hk, .inl ⟨hc, fun a ha K Q hK => ⟨fun _ => ?_, fun h => by simp [Region.wanted] at h⟩⟩⟩
  exact hr a ha _ _ _ _ _ _ (fun v w' hv => hK _ _ (by rw [dstOf_at ho]; exact h v w' hv))
end
end Go.Eng
namespace Go.Eng
open Go Go.IntWalk
def cblk : Value → List Nat
  | .tuple vs => vs.toList.flatMap fun u => u.cells.toList.flatMap vblk
  | v => v.cells.toList.flatMap vblk
section
variable {P : Program} {n : Nat}
def tailOk2 (l : List Oper) (p : Nat) : Bool := Nat.ble p l.length && ((List.range l.length).all fun i => !(Nat.blt p i) || depB l i (i - 1)) && (Nat.ble l.length p || (List.range p).all fun j => (List.range (p + 1)).any fun m => Nat.blt j m && depB l m j)
theorem dep_edge {l : List Oper} {i j : Nat} (h : depB l i j = true) : ∃ o, l[i]? = some o ∧ ∃ e ∈ o.after, e.on = j ∧ Region.binds .any e = true := by
  unfold depB at h
  cases ho : l[i]? with
  | none => rw [ho] at h; cases h
  | some o =>
    rw [ho] at h
    obtain ⟨e, he, h3⟩ := List.any_eq_true.1 h
    simp only [Bool.and_eq_true, beq_iff_eq] at h3
    exact ⟨o, rfl, e, Array.mem_toList_iff.1 he, h3.1, h3.2⟩
theorem tail2_next {l : List Oper} {p i : Nat} (h : tailOk2 l p = true) (hi : i < l.length) (hp : p < i) : depB l i (i - 1) = true := by
  simp only [tailOk2, Bool.and_eq_true] at h
  have h1 := List.all_eq_true.1 h.1.2 i (List.mem_range.2 hi)
  have hn : Nat.blt p i = true := Nat.ble_eq_true_of_le hp
  rw [hn] at h1; simpa using h1
theorem tail2_all {l : List Oper} {p : Nat} {S : Nat → Prop} (h : tailOk2 l p = true) (hp : p < l.length) (hS : ∀ i j, i = p ∨ S i → depB l i j = true → S j) : ∀ d j, j < p → d = p - j → S j := by
  intro d
  induction d using Nat.strongRecOn with
  | ind d ih =>
    intro j hj hd
    simp only [tailOk2, Bool.and_eq_true, Bool.or_eq_true] at h
    rcases h.2 with h1 | h1
    · have := Nat.le_of_ble_eq_true h1; omega
    · obtain ⟨m, hm, h2⟩ := List.any_eq_true.1 (List.all_eq_true.1 h1 j (List.mem_range.2 hj))
      simp only [Bool.and_eq_true] at h2
      have h3 := blt_lt h2.1
      have h4 := List.mem_range.1 hm
      refine hS m j ?_ h2.2
      rcases Nat.lt_or_ge m p with h5 | h5
      · exact .inr (ih (p - m) (by omega) m h5 rfl)
      · exact .inl (by omega)
theorem wpAny_tail2 {l : List Oper} {p0 : Nat} {Q : Exit → Act → World → Prop} (hok : drawOk n l = true) (ht : tailOk2 l p0 = true) : ∀ (d p fuel : Nat) (listed : Array Bool) (a : Act) (w : World), d = l.length - p → p ≤ l.length → p0 ≤ p → d ≤ fuel → listed.size = l.length →
    (∀ i, i < l.length → listed.getD i false = decide (i < p)) → wpList P l.toArray Q (l.drop p) a w → wpAny P .any l.toArray Q fuel listed a w := by
  intro d
  induction d with
  | zero =>
    intro p fuel listed a w hd hp hp0 hf hs hl h
    have hpl : p = l.length := by omega
    subst hpl
    rw [List.drop_length] at h
    have hr : Region.ready .any l.toArray listed = [] := by
      cases hr : Region.ready .any l.toArray listed with
      | nil => rfl
      | cons i r =>
        exfalso
        have hi : i ∈ Region.ready .any l.toArray listed := by rw [hr]; simp
        obtain ⟨h0, o, ho, _⟩ := mem_ready.1 hi
        have hlt : i < l.length := by have := (Array.getElem?_eq_some_iff.1 ho).1; simpa using this
        rw [getD_lists hs hlt true false, hl i hlt] at h0
        simp [hlt] at h0
    cases fuel with
    | zero => exact ⟨hr, h⟩
    | succ f => exact ⟨fun _ => h, fun i hi => by rw [hr] at hi; cases hi⟩
  | succ d ih =>
    intro p fuel listed a w hd hp hp0 hf hs hl h
    have hplt : p < l.length := by omega
    obtain ⟨f, rfl⟩ : ∃ f, fuel = f + 1 := ⟨fuel - 1, by omega⟩
    have hget : l[p]? = some l[p] := List.getElem?_eq_getElem hplt
    have honly : ∀ i, i ∈ Region.ready .any l.toArray listed → i = p := by
      intro i hi
      obtain ⟨h0, o, ho, hedge⟩ := mem_ready.1 hi
      have hlt : i < l.length := by have := (Array.getElem?_eq_some_iff.1 ho).1; simpa using this
      have h1 : ¬ i < p := by
        rw [getD_lists hs hlt true false, hl i hlt] at h0
        simpa using h0
      rcases Nat.lt_or_ge p i with h2 | h2
      · obtain ⟨o', ho', e, he, h3, h4⟩ := dep_edge (tail2_next ht hlt (by omega))
        rw [show l[i]? = some o from by simpa using ho] at ho'
        obtain rfl := Option.some.inj ho'
        have := hedge e he h4
        rw [h3, hl (i - 1) (by omega)] at this
        have := of_decide_eq_true this
        omega
      · omega
    have hmem : p ∈ Region.ready .any l.toArray listed := by
      refine mem_ready.2 ⟨by rw [getD_lists hs hplt true false, hl p hplt]; simp, l[p], by simp [hget], fun e he hb => ?_⟩
      have h1 := List.all_eq_true.1 hok p (List.mem_range.2 hplt)
      simp only [hget, Bool.and_eq_true] at h1
      have h2 := List.all_eq_true.1 h1.1.2 e (Array.mem_toList_iff.2 he)
      rw [hb] at h2
      have h3 : e.on < p := blt_lt (by simpa using h2)
      rw [hl e.on (by omega)]; simpa using h3
    refine ⟨fun hr => (by rw [hr] at hmem; cases hmem), fun i hi => ?_⟩
    have := honly i hi
    subst this
    rw [List.drop_eq_getElem_cons hplt] at h
    unfold wpOp
    rw [show l.toArray[i]? = some l[i] from by simp [hget]]
    simp only
    unfold wpList at h
    have hnext : ∀ a' w', wpList P l.toArray Q (l.drop (i + 1)) a' w' → wpAny P .any l.toArray Q f (listed.setIfInBounds i true) a' w' := by
      intro a' w' h'
      refine ih (i + 1) f _ a' w' (by omega) (by omega) (by omega) (by omega) (by simpa using hs) ?_ h'
      intro j hj
      by_cases hij : i = j
      · subst hij
        rw [Array.getD_eq_getD_getElem?]; simp [hs, hj]
      · rw [getD_set_ne false hij, hl j hj]
        by_cases h1 : j < i
        · simp [h1]; omega
        · simp [h1]; omega
    split at h
    · rename_i hw
      rw [if_pos hw]
      exact h.imp (fun h => Oper.wp_mono (fun a' w' h' => hnext a' w' h') h) id
    · rename_i hw
      rw [if_neg hw]
      exact hnext _ _ h
def dpF (l : List Oper) (vs : Nat → Value) : List Nat → Fr
  | [] => []
  | j :: r => bif hasDst l j then (dstOf l j, vs j) :: dpF l vs r else dpF l vs r
theorem mem_dpF {l : List Oper} {vs : Nat → Value} {q : Nat × Value} : ∀ {deps : List Nat}, q ∈ dpF l vs deps → ∃ j, j ∈ deps ∧ hasDst l j = true ∧ q = (dstOf l j, vs j)
  | [], h => by cases h
  | j :: r, h => by
    unfold dpF at h
    cases hd : hasDst l j with
    | true =>
      rw [hd, cond_true, List.mem_cons] at h
      rcases h with h | h
      · exact ⟨j, by simp, hd, h⟩
      · obtain ⟨i, h1, h2, h3⟩ := mem_dpF h
        exact ⟨i, by simp [h1], h2, h3⟩
    | false =>
      rw [hd, cond_false] at h
      obtain ⟨i, h1, h2, h3⟩ := mem_dpF h
      exact ⟨i, by simp [h1], h2, h3⟩
theorem get_dpF {l : List Oper} {vs : Nat → Value} {f0 : Fr} : ∀ {pre : List Nat} {t : Nat} {u : Value}, (dpF l vs pre ++ f0).get t = some u → (∃ j, j ∈ pre ∧ hasDst l j = true ∧ dstOf l j = t ∧ vs j = u) ∨ f0.get t = some u
  | [], t, u, h => .inr h
  | j :: r, t, u, h => by
    have rest : (dpF l vs r ++ f0).get t = some u → (∃ i, i ∈ j :: r ∧ hasDst l i = true ∧ dstOf l i = t ∧ vs i = u) ∨ f0.get t = some u := by
      intro h
      rcases get_dpF (pre := r) h with ⟨i, hi, h1, h2⟩ | h1
      · exact .inl ⟨i, by simp [hi], h1, h2⟩
      · exact .inr h1
    unfold dpF at h
    cases hd : hasDst l j with
    | false => rw [hd, cond_false] at h; exact rest h
    | true =>
      rw [hd, cond_true] at h
      simp only [List.cons_append, Fr.get] at h
      by_cases e : Nat.beq (dstOf l j) t = true
      · rw [e] at h
        simp only [cond_true, Option.some.injEq] at h
        exact .inl ⟨j, by simp, hd, Nat.eq_of_beq_eq_true e, h⟩
      · have e' : Nat.beq (dstOf l j) t = false := eq_false_of_ne_true e
        rw [e'] at h
        exact rest h
def frPut (l : List Oper) (i : Nat) (v : Value) (f : Fr) : Fr := bif hasDst l i then (dstOf l i, v) :: f else f
theorem dpF_cons {l : List Oper} {vs : Nat → Value} {i : Nat} {r : List Nat} {f0 : Fr} : dpF l vs (i :: r) ++ f0 = frPut l i (vs i) (dpF l vs r ++ f0) := by
  unfold frPut
  simp only [dpF]
  cases hasDst l i <;> rfl
section
variable {l : List Oper} {p : Nat} {T : List Nat} {f0 : Fr}
def LkA (l : List Oper) (f0 : Fr) (pre : List Nat) (vs : Nat → Value) (i : Nat) (f1 : Fr) : Prop :=
  ∀ t u, f1.get t = some u → (∃ j, j ∈ pre ∧ depB l i j = true ∧ hasDst l j = true ∧ dstOf l j = t ∧ vs j = u) ∨ f0.get t = some u
theorem lkA_of {n : Nat} (hok : drawOk n l = true) (hpl : p ≤ l.length) {pre : List Nat} {vs : Nat → Value} {i : Nat} {f1 : Fr} (hpre : ∀ j, j ∈ pre → j < p) (hs : Fr.sub f1 (dpF l vs pre.reverse ++ f0)) (h : slotsOk l p i f1 = true) : LkA l f0 pre vs i f1 := by
  intro t u ht
  rcases get_dpF (sub_get hs t u ht) with ⟨j, hj, h0, h1, h2⟩ | h1
  · have hj' : j ∈ pre := by simpa using hj
    obtain ⟨q, hq, hq'⟩ := get_mem ht
    have h3 := List.all_eq_true.1 h q hq
    simp only [Bool.or_eq_true] at h3
    rcases h3 with h3 | h3
    · have h4 := List.all_eq_true.1 h3 j (List.mem_range.2 (hpre j hj'))
      rw [h0, hq'] at h4
      simp [h1] at h4
    · obtain ⟨j', hj1, h5⟩ := List.any_eq_true.1 h3
      simp only [Bool.and_eq_true, beq_iff_eq] at h5
      have hlt := List.mem_range.1 hj1
      have : j = j' := draw_distinct hok (Nat.lt_of_lt_of_le (hpre j hj') hpl) (Nat.lt_of_lt_of_le hlt hpl) h0 h5.2.1 (by rw [h1, h5.2.2, hq'])
      subst this
      exact .inl ⟨j, hj', h5.1, h0, h1, h2⟩
  · exact .inr h1
def RdOkA (P : Program) (n : Nat) (l : List Oper) (T : List Nat) (f0 : Fr) (pre : List Nat) (vs : Nat → Value) (w : World) (i : Nat) : Prop :=
  ∃ o f1, l[i]? = some o ∧ LkA l f0 pre vs i f1 ∧ ∀ w', Keep T w w' → PStep P n l.toArray o f1 w' (fun v' w'' => v' = vs i ∧ w'' = w')
theorem LkA.mono {pre pre' : List Nat} {vs vs' : Nat → Value} {i : Nat} {f1 : Fr} (h : LkA l f0 pre vs i f1) (hm : ∀ j, j ∈ pre → j ∈ pre' ∧ vs' j = vs j) : LkA l f0 pre' vs' i f1 := by
  intro t u ht
  rcases h t u ht with ⟨j, h1, h2, h3, h4, h5⟩ | h1
  · exact .inl ⟨j, (hm j h1).1, h2, h3, h4, by rw [(hm j h1).2, h5]⟩
  · exact .inr h1
theorem RdOkA.mono {pre pre' : List Nat} {vs vs' : Nat → Value} {w w' : World} {i : Nat} (h : RdOkA P n l T f0 pre vs w i) (hi : i ∈ pre) (hm : ∀ j, j ∈ pre → j ∈ pre' ∧ vs' j = vs j) (hk : Keep T w w') : RdOkA P n l T f0 pre' vs' w' i := by
  obtain ⟨o, f1, h1, h2, h3⟩ := h
  refine ⟨o, f1, h1, h2.mono hm, fun w2 hk2 => ?_⟩
  rw [(hm i hi).2]
  exact h3 w2 (hk.trans hk2)
theorem dpF_setV {vs : Nat → Value} {i : Nat} {v : Value} : ∀ {pre : List Nat}, i ∉ pre → dpF l (setV vs i v) pre = dpF l vs pre
  | [], _ => rfl
  | j :: r, h => by
    simp only [dpF]
    rw [setV_other vs v (fun e => h (by simp [e])), dpF_setV (pre := r) (fun hm => h (by simp [hm]))]
theorem kn_lkA {pre : List Nat} {vs : Nat → Value} {i : Nat} {f1 : Fr} {a : Act} (hk : Kn n f0 a) (hl : LkA l f0 pre vs i f1) (hd : ∀ j, depB l i j = true → j ∈ pre → hasDst l j = true → a.tmps.getD (dstOf l j) undef = vs j) : Kn n f1 a := by
  refine ⟨hk.size, hk.defers, fun t u ht => ?_⟩
  rcases hl t u ht with ⟨j, h1, h2, h3, h4, h5⟩ | h1
  · rw [← h4, ← h5]; exact hd j h2 h1 h3
  · exact hk.get t u h1
end
def planOkA (n : Nat) (l : List Oper) (p : Nat) (plan : List Nat) (cb : Nat → Bool) (fl : List Nat) : Bool :=
  drawOk n l && tailOk2 l p && plan.all (fun i => Nat.blt i p && (hasDst l i || cb i)) && (List.range p).all (fun i => plan.contains i || fl.contains i) && eager l cb plan && fl.all (fun i => Nat.blt i p && !plan.contains i)
def PA (P : Program) (n : Nat) (l : List Oper) (p : Nat) (T : List Nat) (s0 : Nat) (cb : Nat → Bool) (Fin : Fr → World → Prop) : List Nat → Fr → World → Prop
  | [], f, w => Fin f w
  | i :: r, f, w => ∃ o f1, l[i]? = some o ∧ Fr.sub f1 f ∧ slotsOk l p i f1 = true ∧
    ((cb i = true ∧ ∀ w1, Keep [] w w1 → PStep P n l.toArray o f1 w1 (fun v w' => Keep T w1 w' ∧ (∀ x, x ∈ cblk v → (x < s0 ∨ w1.heap.size ≤ x) ∧ x < w'.heap.size) ∧ PA P n l p T s0 cb Fin r (frPut l i v f) w')) ∨
     (cb i = false ∧ ∃ v, (∀ w', Keep T w w' → PStep P n l.toArray o f1 w' (fun v' w'' => v' = v ∧ w'' = w')) ∧ PA P n l p T s0 cb Fin r (frPut l i v f) w))
theorem PA.grow {l : List Oper} {p : Nat} {T : List Nat} {s0 : Nat} {cb : Nat → Bool} {Fin : Fr → World → Prop} (hF : ∀ f w w', Keep [] w w' → Fin f w → Fin f w') : ∀ (pl : List Nat) (f : Fr) (w w' : World), Keep [] w w' → PA P n l p T s0 cb Fin pl f w → PA P n l p T s0 cb Fin pl f w'
  | [], f, w, w', k, h => by unfold PA at *; exact hF _ _ _ k h
  | i :: r, f, w, w', k, h => by
    unfold PA at *
    obtain ⟨o, f1, h1, h2, h3, h4⟩ := h
    refine ⟨o, f1, h1, h2, h3, ?_⟩
    rcases h4 with ⟨hc, h4⟩ | ⟨hc, v, h5, h6⟩
    · exact .inl ⟨hc, fun w1 k1 => h4 w1 (k.trans k1)⟩
    · exact .inr ⟨hc, v, fun w1 k1 => h5 w1 (k.weak.trans k1), PA.grow hF r _ w w' k h6⟩
section
variable {l : List Oper} {p : Nat} {T : List Nat} {s0 : Nat} {cb : Nat → Bool} {Fin : Fr → World → Prop} {f0 : Fr}
theorem absorbA {n : Nat} (hok : drawOk n l = true) (hpl : p ≤ l.length) : ∀ (rest pre : List Nat) (vs : Nat → Value) (w : World), eager l cb (pre ++ rest) = true → (∀ j, j ∈ pre ++ rest → j < p ∧ (hasDst l j = true ∨ cb j = true)) → PA P n l p T s0 cb Fin rest (dpF l vs pre.reverse ++ f0) w →
    (∀ i, i ∈ pre → cb i = false → RdOkA P n l T f0 pre vs w i) → ∃ pre' rest' vs', pre ++ rest = pre' ++ rest' ∧ (∀ i, i ∈ pre → i ∈ pre' ∧ vs' i = vs i) ∧ (∀ i, i ∈ pre' → i ∈ pre ∨ cb i = false) ∧ (∀ c r, rest' = c :: r → cb c = true) ∧
      PA P n l p T s0 cb Fin rest' (dpF l vs' pre'.reverse ++ f0) w ∧ ∀ i, i ∈ pre' → cb i = false → RdOkA P n l T f0 pre' vs' w i
  | [], pre, vs, w, _, _, h, hr => ⟨pre, [], vs, rfl, fun i hi => ⟨hi, rfl⟩, fun i hi => .inl hi, (fun c r h => by cases h), h, hr⟩
  | i :: r, pre, vs, w, he, hb, h, hr => by
    have h0 := h
    unfold PA at h
    obtain ⟨o, f1, h1, h2, h3, h4⟩ := h
    rcases h4 with ⟨hc, _⟩ | ⟨hc, v, h5, h6⟩
    · exact ⟨pre, i :: r, vs, rfl, fun i hi => ⟨hi, rfl⟩, fun i hi => .inl hi, (fun c r h => by cases h; exact hc), h0, hr⟩
    · have hni : i ∉ pre := fun hm => (eager_split he).2 i hm (by simp)
      have hlk := lkA_of (f0 := f0) hok hpl (fun j hj => (hb j (by simp [hj])).1) h2 h3
      have hm : ∀ j, j ∈ pre → j ∈ pre ++ [i] ∧ setV vs i v j = vs j := fun j hj => ⟨by simp [hj], setV_other vs v (fun e => hni (e ▸ hj))⟩
      have hnr : i ∉ pre.reverse := by simpa using hni
      obtain ⟨pre', rest', vs', k1, k2, k3, k4, k5, k6⟩ := absorbA hok hpl r (pre ++ [i]) (setV vs i v) w (by simpa using he) (by simpa using hb)
        (by rw [List.reverse_append, List.reverse_singleton, List.singleton_append, dpF_cons, setV_same, dpF_setV hnr]; exact h6)
        (fun j hj hcj => by
          rcases List.mem_append.1 hj with h | h
          · exact (hr j h hcj).mono h hm (Keep.refl _ _)
          · rw [List.mem_singleton] at h
            subst h
            refine ⟨o, f1, h1, hlk.mono hm, fun w2 hk2 => ?_⟩
            rw [setV_same]; exact h5 w2 hk2)
      refine ⟨pre', rest', vs', by simpa using k1, fun j hj => ?_, fun j hj => ?_, k4, k5, k6⟩
      · obtain ⟨q1, q2⟩ := k2 j (hm j hj).1
        exact ⟨q1, q2.trans (hm j hj).2⟩
      · rcases k3 j hj with h | h
        · rcases List.mem_append.1 h with h | h
          · exact .inl h
          · rw [List.mem_singleton] at h; subst h; exact .inr hc
        · exact .inr h
end
variable {fin : Exit → Act → World → Prop} {k : List KI} {f : Fr} {w : World}
def FinA (P : Program) (fin : Exit → Act → World → Prop) (n : Nat) (k : List KI) (l : List Oper) (p s0 : Nat) (cs : List Nat) (fc : Fr) : List (Nat × TypeId × List Value) → List Nat → Fr → World → Prop
  | [], _, f, w => OW P fin n k l.toArray (l.drop p) f w
  | q :: r, seen, f, w => ∀ b, s0 ≤ b → b < w.heap.size → Bk w b q.2.1 q.2.2 → (∀ x, x ∈ seen → x ≠ b) → (∀ j, j ∈ cs → hasDst l j = true → ∀ v, fc.get (dstOf l j) = some v → ∀ x, x ∈ cblk v → x ≠ b) →
    FinA P fin n k l p s0 cs fc r (b :: seen) ((dstOf l q.1, .pointer (some ⟨b, 0, none⟩)) :: f) w
def flFr (l : List Oper) (bs : Nat → Nat) : List (Nat × TypeId × List Value) → Fr → Fr
  | [], f => f
  | q :: r, f => flFr l bs r ((dstOf l q.1, .pointer (some ⟨bs q.1, 0, none⟩)) :: f)
theorem FinA.use {l : List Oper} {p s0 : Nat} {cs : List Nat} {fc : Fr} {bs : Nat → Nat} : ∀ {fl : List (Nat × TypeId × List Value)} {seen : List Nat} {f : Fr} {w : World}, FinA P fin n k l p s0 cs fc fl seen f w →
    (∀ q, q ∈ fl → s0 ≤ bs q.1 ∧ bs q.1 < w.heap.size ∧ Bk w (bs q.1) q.2.1 q.2.2 ∧ (∀ j, j ∈ cs → hasDst l j = true → ∀ v, fc.get (dstOf l j) = some v → ∀ x, x ∈ cblk v → x ≠ bs q.1) ∧ (∀ x, x ∈ seen → x ≠ bs q.1)) →
    (fl.map (·.1)).Nodup → (∀ q q', q ∈ fl → q' ∈ fl → q.1 ≠ q'.1 → bs q.1 ≠ bs q'.1) → OW P fin n k l.toArray (l.drop p) (flFr l bs fl f) w
  | [], seen, f, w, h, _, _, _ => h
  | q :: r, seen, f, w, h, hq, hnd, hd => by
    obtain ⟨h1, h2, h3, h4, h5⟩ := hq q (by simp)
    have hnd' := List.nodup_cons.1 hnd
    refine FinA.use (fl := r) (f := (dstOf l q.1, .pointer (some ⟨bs q.1, 0, none⟩)) :: f) (h (bs q.1) h1 h2 h3 h5 h4) (fun q' hq' => ?_) hnd'.2 (fun a b ha hb => hd a b (by simp [ha]) (by simp [hb]))
    obtain ⟨g1, g2, g3, g4, g5⟩ := hq q' (by simp [hq'])
    refine ⟨g1, g2, g3, g4, fun x hx => ?_⟩
    rcases List.mem_cons.1 hx with rfl | hx
    · exact hd q q' (by simp) (by simp [hq']) (fun e => hnd'.1 (List.mem_map.2 ⟨q', hq', e.symm⟩))
    · exact g5 x hx
theorem nd_eq {q q' : Nat × TypeId × List Value} : ∀ {fl : List (Nat × TypeId × List Value)}, (fl.map (·.1)).Nodup → q ∈ fl → q' ∈ fl → q.1 = q'.1 → q' = q
  | [], _, h, _, _ => by cases h
  | a :: r, hn, h1, h2, he => by
    have hn' := List.nodup_cons.1 hn
    rcases List.mem_cons.1 h1 with e1 | h1 <;> rcases List.mem_cons.1 h2 with e2 | h2
    · rw [e1, e2]
    · exact absurd (List.mem_map.2 ⟨q', h2, by rw [← he, e1]⟩) hn'.1
    · exact absurd (List.mem_map.2 ⟨q, h1, by rw [he, e2]⟩) hn'.1
    · exact nd_eq hn'.2 h1 h2 he
theorem kn_flFr {l : List Oper} {bs : Nat → Nat} {a : Act} : ∀ {fl : List (Nat × TypeId × List Value)} {f : Fr}, Kn n f a → (∀ q, q ∈ fl → a.tmps.getD (dstOf l q.1) undef = .pointer (some ⟨bs q.1, 0, none⟩)) → Kn n (flFr l bs fl f) a
  | [], f, h, _ => h
  | q :: r, f, h, hq => by
    refine kn_flFr (fl := r) ?_ (fun q' hq' => hq q' (by simp [hq']))
    have := Kn.app (n := n) (g := [(dstOf l q.1, .pointer (some ⟨bs q.1, 0, none⟩))]) (f := f) (a := a) (fun p hp => by
      rw [List.mem_singleton] at hp; subst hp; exact hq q (by simp)) h
    exact this
def FlOk (P : Program) (l : List Oper) (q : Nat × TypeId × List Value) : Prop := ∃ d ty pos aft s by_, l[q.1]? = some ⟨some d, .alloc q.2.1, ty, pos, aft, none⟩ ∧ Ty P q.2.1 q.2.2 s by_
def setB (bs : Nat → Nat) (i b : Nat) : Nat → Nat := fun j => bif Nat.beq j i then b else bs j
theorem setB_same (bs : Nat → Nat) (i b : Nat) : setB bs i b i = b := by simp [setB]
theorem setB_other (bs : Nat → Nat) {i j : Nat} (b : Nat) (h : j ≠ i) : setB bs i b j = bs j := by
  unfold setB
  cases hb : Nat.beq j i with
  | false => rfl
  | true => exact absurd (Nat.eq_of_beq_eq_true hb) h
theorem tw_planA {id : Nat} {l : List Oper} (p : Nat) (plan : List Nat) (cs : List Nat) (T : List Nat) (fl : List (Nat × TypeId × List Value)) (hm : P.follows .mixedOrders = true) (f0 : Fr) (hf : Fr.sub f0 f) (hok : planOkA n l p plan (fun i => cs.contains i) (fl.map (·.1)) = true) (hnd : (fl.map (·.1)).Nodup) (hcs : cs.all (fun i => plan.contains i) = true) (hfl : ∀ q, q ∈ fl → FlOk P l q) (hT : ∀ x, x ∈ T → x < w.heap.size) (hfree0 : freeOk (l.take p) f0 = true)
    (h : ∀ w1, Keep [] w w1 → PA P n l p T w.heap.size (fun i => cs.contains i) (fun f' w' => ∀ w2, Keep [] w' w2 → FinA P fin n k l p w.heap.size cs f' fl [] f' w2) plan f0 w1) :
    TW P fin n (.c (.region id l.toArray true) :: k) f w := by
  intro a ha
  simp only [KQ]
  have ha0 := ha.sub hf
  simp only [planOkA, Bool.and_eq_true] at hok
  obtain ⟨⟨⟨⟨⟨hdr, ht⟩, hall⟩, hcov⟩, heag⟩, hfla⟩ := hok
  have hfl1 : ∀ q, q ∈ fl → q.1 < p ∧ q.1 ∉ plan := by
    intro q hq
    have := List.all_eq_true.1 hfla q.1 (List.mem_map.2 ⟨q, hq, rfl⟩)
    simp only [Bool.and_eq_true, Bool.not_eq_true'] at this
    exact ⟨blt_lt this.1, by simpa using this.2⟩
  have hcsp : ∀ j, j ∈ cs → j ∈ plan := by
    intro j hj
    have := List.all_eq_true.1 hcs j hj
    simpa using this
  have hpl : p ≤ l.length := by simp only [tailOk2, Bool.and_eq_true] at ht; exact Nat.le_of_ble_eq_true ht.1.1
  have hplan : ∀ j, j ∈ plan → j < p ∧ (hasDst l j = true ∨ cs.contains j = true) := by
    intro j hj
    have := List.all_eq_true.1 hall j hj
    simp only [Bool.and_eq_true, Bool.or_eq_true] at this
    exact ⟨blt_lt this.1, this.2⟩
  have hmem : ∀ j, j < p → j ∈ plan ∨ ∃ q, q ∈ fl ∧ q.1 = j := by
    intro j hj
    have := List.all_eq_true.1 hcov j (List.mem_range.2 hj)
    simp only [Bool.or_eq_true, List.contains_iff_mem, List.mem_map] at this
    exact this
  have hgrow : ∀ f' w1 w2, Keep [] w1 w2 → (∀ w3, Keep [] w1 w3 → FinA P fin n k l p w.heap.size cs f' fl [] f' w3) → (∀ w3, Keep [] w2 w3 → FinA P fin n k l p w.heap.size cs f' fl [] f' w3) := fun f' w1 w2 k1 h w3 k3 => h w3 (k1.trans k3)
  have hfree : ∀ i, i < p → hasDst l i = true → f0.get (dstOf l i) = none := by
    intro i hi hd
    have e1 : dstOf (l.take p) i = dstOf l i := by unfold dstOf; rw [List.getElem?_take, if_pos hi]
    have e2 : hasDst (l.take p) i = hasDst l i := by unfold hasDst; rw [List.getElem?_take, if_pos hi]
    rw [← e1]
    exact get_none_of_free (l := l.take p) (by rw [List.length_take]; omega) (by rw [e2]; exact hd) hfree0
  have hend : ∀ (listed : Array Bool) (a : Act) (w' : World), Kn n f0 a → (∀ i, i < p → listed.getD i false = true) → w.heap.size ≤ w'.heap.size →
      (∃ pre rest vs, ∃ bs : Nat → Nat, plan = pre ++ rest ∧ (∀ c r, rest = c :: r → cs.contains c = true) ∧ PA P n l p T w.heap.size (fun i => cs.contains i) (fun f' w' => ∀ w2, Keep [] w' w2 → FinA P fin n k l p w.heap.size cs f' fl [] f' w2) rest (dpF l vs pre.reverse ++ f0) w' ∧
        (∀ i, i ∈ pre → cs.contains i = false → RdOkA P n l T f0 pre vs w' i) ∧ (∀ i, i ∈ pre → cs.contains i = true → listed.getD i false = true) ∧ (∀ i, listed.getD i false = true → (∃ q, q ∈ fl ∧ q.1 = i) ∨ i ∈ pre ∧ (hasDst l i = true → a.tmps.getD (dstOf l i) undef = vs i)) ∧
        (∀ q, q ∈ fl → listed.getD q.1 false = true → a.tmps.getD (dstOf l q.1) undef = .pointer (some ⟨bs q.1, 0, none⟩) ∧ w.heap.size ≤ bs q.1 ∧ bs q.1 < w'.heap.size ∧ Bk w' (bs q.1) q.2.1 q.2.2 ∧ ∀ j, j ∈ pre → cs.contains j = true → ∀ x, x ∈ cblk (vs j) → x ≠ bs q.1) ∧
        (∀ j, j ∈ pre → cs.contains j = true → ∀ x, x ∈ cblk (vs j) → x < w'.heap.size) ∧
        (∀ q q', q ∈ fl → q' ∈ fl → listed.getD q.1 false = true → listed.getD q'.1 false = true → q.1 ≠ q'.1 → bs q.1 ≠ bs q'.1)) →
      wpList P l.toArray (KQ P fin k) (l.drop p) a w' := by
    intro listed a w' hk hlist hsz hst
    obtain ⟨pre, rest, vs, bs, h1, h2, h3, h4, h5, h6, h7, h8, h9⟩ := hst
    have hnf : ∀ c, c ∈ plan → ¬ ∃ q, q ∈ fl ∧ q.1 = c := fun c hc ⟨q, hq, he⟩ => (hfl1 q hq).2 (he ▸ hc)
    have hrest : rest = [] := by
      cases rest with
      | nil => rfl
      | cons c r =>
        exfalso
        have hcp : c ∈ plan := by rw [h1]; simp
        have hc := hplan c hcp
        rcases h6 c (hlist c hc.1) with h | h
        · exact hnf c hcp h
        · exact (eager_split (pre := pre) (h1 ▸ heag)).2 c h.1 (by simp)
    subst hrest
    have hF := h3
    unfold PA at hF
    have hpre : ∀ j, j ∈ pre → j ∈ plan := fun j hj => by rw [h1]; simp [hj]
    have hkF : Kn n (dpF l vs pre.reverse ++ f0) a := Kn.app (by
      intro q hq
      obtain ⟨j, hj, hjd, rfl⟩ := mem_dpF hq
      have hj' : j ∈ pre := by simpa using hj
      rcases h6 j (hlist j (hplan j (hpre j hj')).1) with h | h
      · exact absurd h (hnf j (hpre j hj'))
      · exact h.2 hjd) hk
    refine FinA.use (bs := bs) (hF w' (Keep.refl _ _)) (fun q hq => ?_) hnd (fun q q' hq hq' hne => h9 q q' hq hq' (hlist _ (hfl1 q hq).1) (hlist _ (hfl1 q' hq').1) hne) a (kn_flFr hkF (fun q hq => (h7 q hq (hlist _ (hfl1 q hq).1)).1))
    obtain ⟨_, g2, g3, g4, g5⟩ := h7 q hq (hlist _ (hfl1 q hq).1)
    refine ⟨g2, g3, g4, fun j hj hjd v hv x hx => ?_, fun x hx => by cases hx⟩
    have hjp := hcsp j hj
    rcases get_dpF hv with ⟨j', hj', e0, e1, e2⟩ | e1
    · have hj2 : j' ∈ pre := by simpa using hj'
      have : j' = j := draw_distinct hdr (Nat.lt_of_lt_of_le (hplan j' (hpre j' hj2)).1 hpl) (Nat.lt_of_lt_of_le (hplan j hjp).1 hpl) e0 hjd e1
      subst this; subst e2
      exact g5 j' hj2 (by simpa using hj) x hx
    · rw [hfree j (hplan j hjp).1 hjd] at e1; cases e1
  refine wp_region_any hm ?_
  have key : ∀ (fuel : Nat) (listed : Array Bool) (a : Act) (w' : World), listed.size = l.length → left l.length listed ≤ fuel → Kn n f0 a → (∀ i, p ≤ i → i < l.length → listed.getD i false = false) → (∀ i, listed.getD i false = true → i < p) →
      (∀ i j, listed.getD i false = true → depB l i j = true → listed.getD j false = true) → w.heap.size ≤ w'.heap.size →
      (∃ pre rest vs, ∃ bs : Nat → Nat, plan = pre ++ rest ∧ (∀ c r, rest = c :: r → cs.contains c = true) ∧ PA P n l p T w.heap.size (fun i => cs.contains i) (fun f' w' => ∀ w2, Keep [] w' w2 → FinA P fin n k l p w.heap.size cs f' fl [] f' w2) rest (dpF l vs pre.reverse ++ f0) w' ∧
        (∀ i, i ∈ pre → cs.contains i = false → RdOkA P n l T f0 pre vs w' i) ∧ (∀ i, i ∈ pre → cs.contains i = true → listed.getD i false = true) ∧ (∀ i, listed.getD i false = true → (∃ q, q ∈ fl ∧ q.1 = i) ∨ i ∈ pre ∧ (hasDst l i = true → a.tmps.getD (dstOf l i) undef = vs i)) ∧
        (∀ q, q ∈ fl → listed.getD q.1 false = true → a.tmps.getD (dstOf l q.1) undef = .pointer (some ⟨bs q.1, 0, none⟩) ∧ w.heap.size ≤ bs q.1 ∧ bs q.1 < w'.heap.size ∧ Bk w' (bs q.1) q.2.1 q.2.2 ∧ ∀ j, j ∈ pre → cs.contains j = true → ∀ x, x ∈ cblk (vs j) → x ≠ bs q.1) ∧
        (∀ j, j ∈ pre → cs.contains j = true → ∀ x, x ∈ cblk (vs j) → x < w'.heap.size) ∧
        (∀ q q', q ∈ fl → q' ∈ fl → listed.getD q.1 false = true → listed.getD q'.1 false = true → q.1 ≠ q'.1 → bs q.1 ≠ bs q'.1)) →
      wpAny P .any l.toArray (KQ P fin k) fuel listed a w' := by
    intro fuel
    induction fuel with
    | zero =>
      intro listed a w' hs hle hk hun hlp hcl hsz hst
      have hlist : ∀ i, i < l.length → listed.getD i false = true := by
        intro i hi
        cases hc : listed.getD i false with
        | true => rfl
        | false =>
          exfalso
          have := left_set hi hs (by rw [getD_lists hs hi true false]; exact hc)
          omega
      have hpe : p = l.length := by
        rcases Nat.lt_or_ge p l.length with h1 | h1
        · have := hun p (Nat.le_refl _) h1; rw [hlist p h1] at this; cases this
        · omega
      refine wpAny_tail2 hdr ht 0 p 0 listed a w' (by omega) hpl (Nat.le_refl _) (Nat.le_refl _) hs (fun i hi => by rw [hlist i hi]; simp; omega) ?_
      exact hend listed a w' hk (fun i hi => hlist i (by omega)) hsz hst
    | succ fuel ih =>
      intro listed a w' hs hle hk hun hlp hcl hsz hst
      by_cases hfull : ∀ i, i < p → listed.getD i false = true
      · refine wpAny_tail2 hdr ht (l.length - p) p (fuel + 1) listed a w' rfl hpl (Nat.le_refl _) ?_ hs (fun i hi => ?_) (hend listed a w' hk hfull hsz hst)
        · refine Nat.le_trans ?_ hle
          unfold left
          have e1 : l.length - p = ((List.range' p (l.length - p)).countP fun i => !listed.getD i true) := by
            rw [List.countP_eq_length.2 (fun i hi => ?_)]
            · simp
            · rw [List.mem_range'_1] at hi
              rw [getD_lists hs (by omega) true false, hun i (by omega) (by omega)]; rfl
          rw [e1]
          have e2 : List.range l.length = List.range p ++ List.range' p (l.length - p) := by
            have e3 := List.range'_append_1 (s := 0) (m := p) (n := l.length - p)
            rw [Nat.zero_add] at e3
            rw [List.range_eq_range', List.range_eq_range', e3]; congr 1; omega
          rw [e2, List.countP_append]; omega
        · by_cases hip : i < p
          · rw [hfull i hip]; simp [hip]
          · rw [hun i (by omega) hi]; simp [hip]
      · obtain ⟨pre, rest, vs, bs, h1, h2, h3, h4, h5, h6, h7, h8, h9⟩ := hst
        have hnf : ∀ c, c ∈ plan → ¬ ∃ q, q ∈ fl ∧ q.1 = c := fun c hc ⟨q, hq, he⟩ => (hfl1 q hq).2 (he ▸ hc)
        obtain ⟨q, hq⟩ := Classical.not_forall.1 hfull
        obtain ⟨hq1, hq2⟩ := Classical.not_imp.1 hq
        have hq2 : listed.getD q false = false := eq_false_of_ne_true hq2
        refine ⟨fun hr => (by
          have := all_listed hdr rfl hs hr q (by omega)
          rw [hq2] at this; cases this), fun i hi => ?_⟩
        obtain ⟨h0, o, ho, hedge⟩ := mem_ready.1 hi
        have ho' : l[i]? = some o := by simpa using ho
        have hlt : i < l.length := (List.getElem?_eq_some_iff.1 ho').1
        have hdepl : ∀ j, depB l i j = true → listed.getD j false = true := by
          intro j hj
          simp only [depB, ho'] at hj
          obtain ⟨e, he, h7⟩ := List.any_eq_true.1 hj
          simp only [Bool.and_eq_true, beq_iff_eq] at h7
          have := hedge e (Array.mem_toList_iff.1 he) h7.2
          rwa [h7.1] at this
        have hip : i < p := by
          rcases Nat.lt_or_ge i p with h7 | h7
          · exact h7
          · exfalso
            rcases Nat.lt_or_ge p i with h8 | h8
            · have := hdepl _ (tail2_next ht hlt h8)
              rw [hun (i - 1) (by omega) (by omega)] at this; cases this
            · have hpi : i = p := by omega
              have := tail2_all (S := fun j => listed.getD j false = true) ht (by omega) (fun m j hm hd => hm.elim (fun e => hdepl j (by rw [hpi, ← e]; exact hd)) (fun hl => hcl m j hl hd)) _ q hq1 rfl
              rw [hq2] at this; cases this
        have hil : listed.getD i false = false := by rw [getD_lists hs hlt false true]; exact h0
        have hidn : ∀ d, o.dst = some d → hasDst l i = true ∧ dstOf l i = d ∧ d < n := by
          intro d hd
          have hdd : dstOf l i = d := by simp [dstOf, ho', hd]
          refine ⟨by simp [hasDst, ho', hd], hdd, ?_⟩
          have h8 := List.all_eq_true.1 hdr i (List.mem_range.2 hlt)
          simp only [ho', Bool.and_eq_true] at h8
          rw [hdd] at h8
          exact blt_lt h8.1.1
        have hids : hasDst l i = true → ∃ d, o.dst = some d := by
          intro hid
          unfold hasDst at hid; rw [ho'] at hid
          cases hd : o.dst with
          | none => rw [Option.bind_some, hd] at hid; cases hid
          | some d => exact ⟨d, rfl⟩
        have hleft := left_set hlt hs h0
        have hun' : ∀ j, p ≤ j → j < l.length → (listed.setIfInBounds i true).getD j false = false := fun j h1 h2 => by rw [getD_set_ne false (by omega)]; exact hun j h1 h2
        have hlp' : ∀ j, (listed.setIfInBounds i true).getD j false = true → j < p := by
          intro j hj
          by_cases hij : i = j
          · subst hij; exact hip
          · rw [getD_set_ne false hij] at hj; exact hlp j hj
        have hcl' : ∀ m j, (listed.setIfInBounds i true).getD m false = true → depB l m j = true → (listed.setIfInBounds i true).getD j false = true := by
          intro m j hm hd
          have hj : listed.getD j false = true := by
            by_cases him : i = m
            · exact hdepl j (him ▸ hd)
            · rw [getD_set_ne false him] at hm; exact hcl m j hm hd
          by_cases hij : i = j
          · subst hij; rw [hil] at hj; cases hj
          · rw [getD_set_ne false hij]; exact hj
        have hput : ∀ v, hasDst l i = true → (a.put o.dst v).tmps.getD (dstOf l i) undef = v := by
          intro v hid
          obtain ⟨d, hod⟩ := hids hid
          obtain ⟨_, hdd, hdn⟩ := hidn d hod
          rw [hdd, hod]; simp [Act.put, Array.getD_eq_getD_getElem?, hk.size, hdn]
        have hputo : ∀ v j, j < p → hasDst l j = true → i ≠ j → (a.put o.dst v).tmps.getD (dstOf l j) undef = a.tmps.getD (dstOf l j) undef := by
          intro v j hj hdj hij
          cases hod : o.dst with
          | none => rfl
          | some d =>
            obtain ⟨hid, hdd, hdn⟩ := hidn d hod
            have hne : d ≠ dstOf l j := fun e => hij (draw_distinct hdr hlt (by omega) hid hdj (by rw [hdd, e]))
            simp only [Act.put, Array.getD_eq_getD_getElem?]; rw [Array.getElem?_setIfInBounds_ne hne]
        have hkput : ∀ v, Kn n f0 (a.put o.dst v) := by
          intro v
          cases hod : o.dst with
          | none => exact hk
          | some d =>
            obtain ⟨hid, hdd, hdn⟩ := hidn d hod
            exact hk.putOther (by rw [← hdd]; exact hfree i hip hid) v
        have hpre : ∀ j, j ∈ pre → j ∈ plan := fun j hj => by rw [h1]; simp [hj]
        have hpredep : ∀ j, depB l i j = true → j ∈ pre → hasDst l j = true → a.tmps.getD (dstOf l j) undef = vs j := fun j hj hjp hjd => (h6 j (hdepl j hj)).elim (fun h => absurd h (hnf j (hpre j hjp))) (fun h => h.2 hjd)
        have hfd : ∀ q, q ∈ fl → hasDst l q.1 = true := by
          intro q hq
          obtain ⟨d, ty, pos, aft, s, by_, hg, _⟩ := hfl q hq
          unfold hasDst; rw [hg]; rfl
        have step : ∀ f1, Kn n f1 a → ∀ R : Value → World → Prop, PStep P n l.toArray o f1 w' R → (∀ v w2, R v w2 → wpAny P .any l.toArray (KQ P fin k) fuel (listed.setIfInBounds i true) (a.put o.dst v) w2) → wpOp P l.toArray (KQ P fin k) i (wpAny P .any l.toArray (KQ P fin k) fuel (listed.setIfInBounds i true)) a w' := by
          intro f1 hkf R hp hn
          obtain ⟨p1, p2⟩ := hp a hkf (wpAny P .any l.toArray (KQ P fin k) fuel (listed.setIfInBounds i true)) (KQ P fin k) hn
          unfold wpOp
          rw [ho]
          simp only
          by_cases hw : Region.wanted o (yielded l.toArray a.tmps) = true
          · rw [if_pos hw]; exact .inl (p1 hw)
          · rw [if_neg hw]; exact p2 (eq_false_of_ne_true hw)
        rcases hmem i hip with hpl1 | ⟨q, hqf, hqi⟩
        · have hpm := hpl1
          rw [h1] at hpm
          have hifl : ∀ q, q ∈ fl → i ≠ q.1 := fun q hq e => hnf i hpl1 ⟨q, hq, e.symm⟩
          rcases List.mem_append.1 hpm with hpre1 | hrs
          · have hcb : cs.contains i = false := by
              cases hc : cs.contains i with
              | false => rfl
              | true => have := h5 i hpre1 hc; rw [hil] at this; cases this
            obtain ⟨o2, f1, g1, g2, g3⟩ := h4 i hpre1 hcb
            rw [ho'] at g1
            simp only [Option.some.injEq] at g1
            subst g1
            refine step f1 (kn_lkA hk g2 hpredep) _ (g3 w' (Keep.refl _ _)) ?_
            rintro v w2 ⟨rfl, rfl⟩
            refine ih _ _ _ (by simpa using hs) (by omega) (hkput _) hun' hlp' hcl' hsz ⟨pre, rest, vs, bs, h1, h2, h3, h4, fun j hj hc => ?_, fun j hj => ?_, fun q hq hlq => ?_, h8, fun q q' hq hq' hl1 hl2 => ?_⟩
            · by_cases hij : i = j
              · subst hij; rw [hcb] at hc; cases hc
              · rw [getD_set_ne false hij]; exact h5 j hj hc
            · by_cases hij : i = j
              · subst hij; exact .inr ⟨hpre1, hput _⟩
              · rw [getD_set_ne false hij] at hj
                rcases h6 j hj with h | ⟨m1, m2⟩
                · exact .inl h
                · have hpj := hplan j (hpre j m1)
                  exact .inr ⟨m1, fun hjd => by rw [hputo _ j hpj.1 hjd hij]; exact m2 hjd⟩
            · rw [getD_set_ne false (hifl q hq)] at hlq
              obtain ⟨m1, m2⟩ := h7 q hq hlq
              exact ⟨by rw [hputo _ q.1 (hfl1 q hq).1 (hfd q hq) (hifl q hq)]; exact m1, m2⟩
            · rw [getD_set_ne false (hifl q hq)] at hl1
              rw [getD_set_ne false (hifl q' hq')] at hl2
              exact h9 q q' hq hq' hl1 hl2
          · cases rest with
            | nil => cases hrs
            | cons c r =>
              have hcc := h2 c r rfl
              rw [h1] at heag
              obtain ⟨he1, he2⟩ := eager_split heag
              rcases List.mem_cons.1 hrs with hic | hir
              · subst hic
                have h30 := h3
                unfold PA at h30
                obtain ⟨o2, f1, g1, g2, g3, g4⟩ := h30
                rw [ho'] at g1
                simp only [Option.some.injEq] at g1
                subst g1
                rcases g4 with ⟨_, g4⟩ | ⟨g4, _⟩
                · have hlk := lkA_of (f0 := f0) hdr hpl (fun j hj => (hplan j (hpre j hj)).1) g2 g3
                  refine step f1 (kn_lkA hk hlk hpredep) _ (g4 w' (Keep.refl _ _)) ?_
                  rintro v w2 ⟨hkw, hcv, hpw⟩
                  have hni : i ∉ pre := fun hm => he2 i hm (by simp)
                  have hnr : i ∉ pre.reverse := by simpa using hni
                  have hmm : ∀ j, j ∈ pre → j ∈ pre ++ [i] ∧ setV vs i v j = vs j := fun j hj => ⟨by simp [hj], setV_other vs v (fun e => hni (e ▸ hj))⟩
                  obtain ⟨pre', rest', vs', k1, k2, k3, k4, k5, k6⟩ := absorbA (f0 := f0) (T := T) (s0 := w.heap.size) (cb := fun i => cs.contains i) hdr hpl r (pre ++ [i]) (setV vs i v) w2 (by rw [List.append_assoc, List.singleton_append]; exact heag) (by rw [List.append_assoc, List.singleton_append, ← h1]; exact hplan)
                    (by rw [List.reverse_append, List.reverse_singleton, List.singleton_append, dpF_cons, setV_same, dpF_setV hnr]; exact hpw)
                    (fun j hj hcj => by
                      rcases List.mem_append.1 hj with h | h
                      · exact (h4 j h hcj).mono h hmm hkw
                      · rw [List.mem_singleton] at h
                        subst h; rw [hcc] at hcj; cases hcj)
                  have hsame : ∀ j, j ∈ pre → j ∈ pre' ∧ vs' j = vs j := fun j hj => ⟨(k2 j (hmm j hj).1).1, ((k2 j (hmm j hj).1).2).trans (hmm j hj).2⟩
                  have hci := k2 i (by simp)
                  rw [setV_same] at hci
                  have hcall : ∀ j, j ∈ pre' → cs.contains j = true → j ∈ pre ∧ vs' j = vs j ∨ j = i := by
                    intro j hj hc
                    rcases k3 j hj with h | h
                    · rcases List.mem_append.1 h with h | h
                      · exact .inl ⟨h, (hsame j h).2⟩
                      · rw [List.mem_singleton] at h; exact .inr h
                    · rw [hc] at h; cases h
                  refine ih _ _ _ (by simpa using hs) (by omega) (hkput _) hun' hlp' hcl' (Nat.le_trans hsz hkw.size) ⟨pre', rest', vs', bs, by rw [← k1, h1]; simp, k4, k5, k6, fun j hj hc => ?_, fun j hj => ?_, fun q hq hlq => ?_, fun j hj hc x hx => ?_, fun q q' hq hq' hl1 hl2 => ?_⟩
                  · by_cases hij : i = j
                    · subst hij
                      rw [Array.getD_eq_getD_getElem?]; simp [hs, hlt]
                    · rw [getD_set_ne false hij]
                      rcases hcall j hj hc with h | h
                      · exact h5 j h.1 hc
                      · exact absurd h.symm hij
                  · by_cases hij : i = j
                    · subst hij; exact .inr ⟨hci.1, fun hid => by rw [hput _ hid, hci.2]⟩
                    · rw [getD_set_ne false hij] at hj
                      rcases h6 j hj with h | ⟨m1, m2⟩
                      · exact .inl h
                      · have hpj := hplan j (hpre j m1)
                        exact .inr ⟨(hsame j m1).1, fun hjd => by rw [hputo _ j hpj.1 hjd hij, (hsame j m1).2]; exact m2 hjd⟩
                  · rw [getD_set_ne false (hifl q hq)] at hlq
                    obtain ⟨m1, m2, m3, m4, m5⟩ := h7 q hq hlq
                    refine ⟨by rw [hputo _ q.1 (hfl1 q hq).1 (hfd q hq) (hifl q hq)]; exact m1, m2, Nat.lt_of_lt_of_le m3 hkw.size, m4.keep hkw (fun hm => by have := hT _ hm; omega), fun j hj hc x hx => ?_⟩
                    rcases hcall j hj hc with ⟨h, e⟩ | h
                    · rw [e] at hx; exact m5 j h hc x hx
                    · subst h
                      rw [hci.2] at hx
                      have := (hcv x hx).1
                      intro e; omega
                  · rcases hcall j hj hc with ⟨h, e⟩ | h
                    · rw [e] at hx; exact Nat.lt_of_lt_of_le (h8 j h hc x hx) hkw.size
                    · subst h
                      rw [hci.2] at hx
                      exact (hcv x hx).2
                  · rw [getD_set_ne false (hifl q hq)] at hl1
                    rw [getD_set_ne false (hifl q' hq')] at hl2
                    exact h9 q q' hq hq' hl1 hl2
                · rw [hcc] at g4; cases g4
              · exfalso
                simp only [eager, Bool.and_eq_true] at he1
                have h7 := he1.1.2
                rw [hcc, Bool.not_true, Bool.false_or] at h7
                have h8 := List.all_eq_true.1 h7 i hir
                obtain ⟨j, hj, hdj⟩ := List.any_eq_true.1 h8
                have hjp : j ∈ plan := by rw [h1]; exact List.mem_append_right _ hj
                rcases h6 j (hdepl j hdj) with h | h
                · exact hnf j hjp h
                · exact he2 j h.1 hj
        · subst hqi
          obtain ⟨d', ty, pos, aft, s, by_, hg, hTy⟩ := hfl q hqf
          rw [hg] at ho'
          simp only [Option.some.injEq] at ho'
          have hnp : q.1 ∉ pre := fun hm => (hfl1 q hqf).2 (hpre _ hm)
          refine step [] ⟨hk.size, hk.defers, fun t v h => by cases h⟩ (fun v' w2 => ∃ b, v' = .pointer (some ⟨b, 0, none⟩) ∧ b = w'.heap.size ∧ Bk w2 b q.2.1 q.2.2 ∧ Keep [] w' w2 ∧ w2.heap.size = w'.heap.size + 1) ?_ ?_
          · subst ho'
            intro a1 ha1 K Q hK
            refine ⟨fun _ => d_alloc (n := n) (f := []) hTy a1 ha1 _ _ _ _ K Q hK, fun h => by simp [Region.wanted] at h⟩
          · rintro v w2 ⟨b, rfl, rfl, hb, hkb, hsb⟩
            have hqne : ∀ q', q' ∈ fl → q'.1 ≠ q.1 → q.1 ≠ q'.1 := fun q' _ h e => h e.symm
            refine ih _ _ _ (by simpa using hs) (by omega) (hkput _) hun' hlp' hcl' (by omega) ⟨pre, rest, vs, setB bs q.1 w'.heap.size, h1, h2, PA.grow hgrow _ _ _ _ hkb h3, fun j hj hc => (h4 j hj hc).mono hj (fun j hj => ⟨hj, rfl⟩) hkb.weak, fun j hj hc => ?_, fun j hj => ?_, fun q' hq' hlq => ?_, fun j hj hc x hx => by have := h8 j hj hc x hx; omega, fun q1 q2 hq1 hq2 hl1 hl2 hne => ?_⟩
            · rw [getD_set_ne false (fun e => hnp (by rw [e]; exact hj))]; exact h5 j hj hc
            · by_cases hij : q.1 = j
              · exact .inl ⟨q, hqf, hij⟩
              · rw [getD_set_ne false hij] at hj
                rcases h6 j hj with h | ⟨m1, m2⟩
                · exact .inl h
                · have hpj := hplan j (hpre j m1)
                  exact .inr ⟨m1, fun hjd => by rw [hputo _ j hpj.1 hjd hij]; exact m2 hjd⟩
            · by_cases hqq : q.1 = q'.1
              · have hqe : q' = q := nd_eq hnd hqf hq' hqq
                subst hqe
                refine ⟨by rw [hput _ (hfd q' hqf), setB_same], by rw [setB_same]; omega, by rw [setB_same]; omega, by rw [setB_same]; exact hb, fun j hj hc x hx => ?_⟩
                rw [setB_same]
                have := h8 j hj hc x hx
                omega
              · rw [getD_set_ne false hqq] at hlq
                obtain ⟨m1, m2, m3, m4, m5⟩ := h7 q' hq' hlq
                rw [setB_other bs _ (Ne.symm hqq)]
                exact ⟨by rw [hputo _ q'.1 (hfl1 q' hq').1 (hfd q' hq') hqq]; exact m1, m2, by omega, m4.keep0 hkb, m5⟩
            · by_cases e1 : q.1 = q1.1
              · have e2 : q.1 ≠ q2.1 := fun e => hne (e1.symm.trans e)
                rw [getD_set_ne false e2] at hl2
                rw [← e1, setB_same, setB_other bs _ (Ne.symm e2)]
                have := (h7 q2 hq2 hl2).2.2.1
                omega
              · rw [getD_set_ne false e1] at hl1
                rw [setB_other bs _ (Ne.symm e1)]
                by_cases e2 : q.1 = q2.1
                · rw [← e2, setB_same]
                  have := (h7 q1 hq1 hl1).2.2.1
                  omega
                · rw [getD_set_ne false e2] at hl2
                  rw [setB_other bs _ (Ne.symm e2)]
                  exact h9 q1 q2 hq1 hq2 hl1 hl2 hne
  obtain ⟨pre', rest', vs', k1, k2, k3, k4, k5, k6⟩ := absorbA (f0 := f0) (T := T) (s0 := w.heap.size) (cb := fun i => cs.contains i) hdr hpl plan [] (fun _ => undef) _ heag hplan (h _ (keep_drew w)) (fun i hi => by cases hi)
  have hemp : ∀ i, ¬ (Array.replicate l.toArray.size false).getD i false = true := by
    intro i hi
    rw [Array.getD_eq_getD_getElem?] at hi
    rcases Nat.lt_or_ge i l.toArray.size with h' | h'
    · rw [Array.getElem?_eq_getElem (by simpa using h')] at hi; simp at hi
    · rw [Array.getElem?_eq_none (by simpa using h')] at hi; simp at hi
  refine key _ _ a _ (by simp) ?_ ha0 ?_ (fun i hi => absurd hi (hemp i)) (fun i _ hi => absurd hi (hemp i)) (Nat.le_refl _) ⟨pre', rest', vs', fun _ => 0, k1, k4, k5, k6, fun i hi hc => ?_, fun i hi => absurd hi (hemp i), fun q _ hq => absurd hq (hemp _), fun j hj hc => ?_, fun q q' _ _ hq => absurd hq (hemp _)⟩
  · unfold left
    have := List.countP_le_length (p := fun i => !(Array.replicate l.toArray.size false).getD i true) (l := List.range l.length)
    simpa using this
  · intro i _ hi
    rw [Array.getD_eq_getD_getElem?, Array.getElem?_eq_getElem (by simpa using hi)]; simp
  · rcases k3 i hi with h | h
    · cases h
    · rw [hc] at h; cases h
  · rcases k3 j hj with h | h
    · cases h
    · rw [hc] at h; cases h
end
end Go.Eng
namespace Go.Eng
open Go Go.IntWalk
section
variable {P : Program} {n : Nat} {f : Fr} {w : World} {ty : TypeId} {fin : Exit → Act → World → Prop} {k : List KI} {l : List Oper} {p s0 : Nat} {T cs r : List Nat} {Fin : Fr → World → Prop} {i : Nat}
theorem pa_nil {fl : List (Nat × TypeId × List Value)} (h : ∀ w2, Keep [] w w2 → FinA P fin n k l p s0 cs f fl [] f w2) : PA P n l p T s0 (fun i => cs.contains i) (fun f' w' => ∀ w2, Keep [] w' w2 → FinA P fin n k l p s0 cs f' fl [] f' w2) [] f w := by unfold PA; exact h
theorem fina_nil {fc : Fr} {seen : List Nat} (h : OW P fin n k l.toArray (l.drop p) f w) : FinA P fin n k l p s0 cs fc [] seen f w := h
theorem frPut_at {d : Nat} {op : Op} {pos : String} {aft : Array Edge} {g : Option (Nat × Bool)} {v : Value} {f : Fr} (ho : l[i]? = some ⟨some d, op, ty, pos, aft, g⟩) : frPut l i v f = (d, v) :: f := by
  unfold frPut hasDst; rw [ho, dstOf_at ho]; rfl
theorem pa_g (f1 : Fr) {op : Op} {d : Nat} {pos : String} {aft : Array Edge} {v : Value} (ho : l[i]? = some ⟨some d, op, ty, pos, aft, none⟩) (hc : cs.contains i = false) (hs : Fr.sub f1 f) (hk : slotsOk l p i f1 = true)
    (hr : ∀ w', Keep T w w' → Gives P n f1 w' op ty v w') (h : PA P n l p T s0 (fun i => cs.contains i) Fin r ((d, v) :: f) w) : PA P n l p T s0 (fun i => cs.contains i) Fin (i :: r) f w := by
  unfold PA
  exact ⟨_, f1, ho, hs, hk, .inr ⟨hc, v, fun w' hw => pstep_g (hr w' hw), by rw [frPut_at ho]; exact h⟩⟩
theorem pa_gx (f1 : Fr) {op : Op} {d : Nat} {pos : String} {aft : Array Edge} {kd : IntKind} {e e' lo hi : Int} (ho : l[i]? = some ⟨some d, op, ty, pos, aft, none⟩) (hc : cs.contains i = false) (hs : Fr.sub f1 f) (hk : slotsOk l p i f1 = true)
    (hr : ∀ w', Keep T w w' → Gives P n f1 w' op ty (.int kd e) w') (he : e = e') (hb : In e' lo hi) (h : ∀ z, Eqn z e' → In z lo hi → PA P n l p T s0 (fun i => cs.contains i) Fin r ((d, .int kd z) :: f) w) : PA P n l p T s0 (fun i => cs.contains i) Fin (i :: r) f w := by
  subst he; exact pa_g f1 ho hc hs hk hr (h _ rfl hb)
theorem pa_d (f1 : Fr) {op : Op} {d : Nat} {pos : String} {aft : Array Edge} (ho : l[i]? = some ⟨some d, op, ty, pos, aft, none⟩) (hc : cs.contains i = true) (hs : Fr.sub f1 f) (hk : slotsOk l p i f1 = true)
    (hr : ∀ w1, Keep [] w w1 → Does P n f1 w1 op ty (fun v w' => Keep T w1 w' ∧ (∀ x, x ∈ cblk v → (x < s0 ∨ w1.heap.size ≤ x) ∧ x < w'.heap.size) ∧ PA P n l p T s0 (fun i => cs.contains i) Fin r ((d, v) :: f) w')) : PA P n l p T s0 (fun i => cs.contains i) Fin (i :: r) f w := by
  unfold PA
  refine ⟨_, f1, ho, hs, hk, .inl ⟨hc, fun w1 k1 a ha K Q hK => ⟨fun _ => ?_, fun h => by simp [Region.wanted] at h⟩⟩⟩
  exact hr w1 k1 a ha _ _ _ _ _ _ (fun v w' hv => hK _ _ ⟨hv.1, hv.2.1, by rw [frPut_at ho]; exact hv.2.2⟩)
theorem pa_d0 (f1 : Fr) {op : Op} {pos : String} {aft : Array Edge} (ho : l[i]? = some ⟨none, op, ty, pos, aft, none⟩) (hc : cs.contains i = true) (hs : Fr.sub f1 f) (hk : slotsOk l p i f1 = true)
    (hr : ∀ w1, Keep [] w w1 → Does P n f1 w1 op ty (fun v w' => Keep T w1 w' ∧ PA P n l p T s0 (fun i => cs.contains i) Fin r f w')) : PA P n l p T s0 (fun i => cs.contains i) Fin (i :: r) f w := by
  unfold PA
  refine ⟨_, f1, ho, hs, hk, .inl ⟨hc, fun w1 k1 a ha K Q hK => ⟨fun _ => ?_, fun h => by simp [Region.wanted] at h⟩⟩⟩
  refine hr w1 k1 a ha none pos aft none K Q (fun v w' hv => ?_)
  have e : frPut l i undef f = f := by unfold frPut hasDst; rw [ho]; rfl
  exact hK undef w' ⟨hv.1, (fun x hx => by cases hx), (by rw [e]; exact hv.2)⟩
theorem pa_grp (d : Nat) (want : Bool) {b : Bool} (_hf : f.get d = some (.bool b)) {pl : List Nat} (h : ∀ c, c = (b == want) → PA P n l p T s0 (fun i => cs.contains i) Fin pl f w) : PA P n l p T s0 (fun i => cs.contains i) Fin pl f w := h _ rfl
theorem pa_grp2 (d : Nat) (want : Bool) {b c' : Bool} (_hf : f.get d = some (gv c' (.bool b))) {pl : List Nat} (h : ∀ c, c = (c' && (b == want)) → PA P n l p T s0 (fun i => cs.contains i) Fin pl f w) : PA P n l p T s0 (fun i => cs.contains i) Fin pl f w := h _ rfl
theorem pa_gg (f1 f2 : Fr) {op : Op} {d : Nat} {pos : String} {aft : Array Edge} {j : Nat} {want c : Bool} {v : Value} (ho : l[i]? = some ⟨some d, op, ty, pos, aft, some (j, want)⟩) (hc : cs.contains i = false) (hs : Fr.sub f1 f) (hk : slotsOk l p i f1 = true)
    (hG : Grd n l.toArray f1 j want c) (hu : UndF c f2 f1) (hr : c = true → ∀ w', Keep T w w' → Gives P n f2 w' op ty v w') (h : PA P n l p T s0 (fun i => cs.contains i) Fin r ((d, gv c v) :: f) w) : PA P n l p T s0 (fun i => cs.contains i) Fin (i :: r) f w := by
  unfold PA
  refine ⟨_, f1, ho, hs, hk, .inr ⟨hc, gv c v, fun w' hw a ha K Q hK => ?_, by rw [frPut_at ho]; exact h⟩⟩
  have hg := hG a ha
  have hwt : Region.wanted ⟨some d, op, ty, pos, aft, some (j, want)⟩ (yielded l.toArray a.tmps) = c := hg
  rw [hwt]
  refine ⟨fun hct => ?_, fun hcf => ?_⟩
  · unfold Oper.wp
    rw [hr hct w' hw a (ha.undF hct hu)]
    exact hK _ _ ⟨(gv_true hct).symm, rfl⟩
  · exact hK _ _ ⟨(gv_false hcf).symm, rfl⟩
end
end Go.Eng
