/- Contracts and laws, part 1 of 5: what each function of the program and of the reference computes, shown once. -/
import Derived.Below
import Derived.Deep.LoopGhost
import Derived.IntWalk
import Derived.Laws.BytesArg
import Derived.Laws.CopyOwn
import Derived.Lib.AppendZeros
import Derived.Lib.ConvBytes
import Derived.Lib.SliceRun
import Derived.Orders
import Derived.Scope
import Derived.StillTail
import Derived.Stop.BytesEq
import Derived.WalkKit
import Derived.WalkSpells
set_option maxRecDepth 100000
set_option maxHeartbeats 4000000
set_option linter.unusedVariables false
set_option linter.unusedSimpArgs false
namespace Go.Eng
open Go
abbrev Fr := List (Nat × Value)
def Fr.get : Fr → Nat → Option Value
 | [], _ => none
 | (k, v) :: r, t => bif Nat.beq k t then some v else Fr.get r t
def Fr.ev (f : Fr) : Operand → Option Value
 | .tmp t => f.get t
 | .const v => some v
 | .global g => some (.pointer (some ⟨g, 0, none⟩))
 | .func k => some (.func (.func k) #[] #[])
def Fr.evs (f : Fr) : List Operand → Option (List Value)
 | [] => some []
 | x :: r => match f.ev x with
   | some v => match Fr.evs f r with
     | some vs => some (v :: vs)
     | none => none
   | none => none
def Fr.sub : Fr → Fr → Prop
 | [], _ => True
 | (t, v) :: g, f => f.get t = some v ∧ Fr.sub g f
structure Kn (n : Nat) (f : Fr) (a : Act) : Prop where
  size : a.tmps.size = n
  defers : a.defers = []
  get : ∀ t v, f.get t = some v → a.tmps.getD t undef = v
theorem Kn.ev {n : Nat} {f : Fr} {a : Act} (h : Kn n f a) {x : Operand} {v : Value} (hx : f.ev x = some v) : a.eval x = v := by
 cases x with
 | tmp t => exact h.get t v hx
 | const c => simp only [Fr.ev, Option.some.injEq] at hx; subst hx; rfl
 | global g => simp only [Fr.ev, Option.some.injEq] at hx; subst hx; rfl
 | func k => simp only [Fr.ev, Option.some.injEq] at hx; subst hx; rfl
theorem Kn.evs {n : Nat} {f : Fr} {a : Act} (h : Kn n f a) : ∀ {xs : List Operand} {vs : List Value}, f.evs xs = some vs → xs.map a.eval = vs
 | [], vs, hx => by simp only [Fr.evs, Option.some.injEq] at hx; subst hx; rfl
 | x :: r, vs, hx => by
   unfold Fr.evs at hx
   split at hx
   · rename_i v hv
     split at hx
     · rename_i us hu
       simp only [Option.some.injEq] at hx
       subst hx
       simp only [List.map_cons, h.ev hv, Kn.evs h hu]
     · cases hx
   · cases hx
theorem Kn.put {n : Nat} {f : Fr} {a : Act} (h : Kn n f a) {d : Nat} (hd : d < n) (v : Value) : Kn n ((d, v) :: f) (a.put (some d) v) := by
 refine ⟨by simp [Act.put, h.size], by simp [Act.put, h.defers], ?_⟩
 intro t u ht
 simp only [Fr.get] at ht
 by_cases e : Nat.beq d t = true
 · rw [e] at ht
   simp only [cond_true, Option.some.injEq] at ht
   have e' : d = t := Nat.eq_of_beq_eq_true e
   subst e' ht
   simp [Act.put, Array.getD, h.size, hd]
 · have e' : Nat.beq d t = false := eq_false_of_ne_true e
   rw [e'] at ht
   simp only [cond_false] at ht
   have := h.get t u ht
   have hne : d ≠ t := fun hh => by subst hh; simp at e'
   rw [← this]
   simp only [Act.put, Array.getD_eq_getD_getElem?]
   rw [Array.getElem?_setIfInBounds_ne hne]
theorem Kn.sub {n : Nat} {f : Fr} {a : Act} (h : Kn n f a) : ∀ {g : Fr}, Fr.sub g f → Kn n g a
 | [], _ => ⟨h.size, h.defers, fun t v ht => by cases ht⟩
 | (k, u) :: g, hs => by
   obtain ⟨h1, h2⟩ := hs
   have ih := Kn.sub h h2
   refine ⟨h.size, h.defers, fun t v ht => ?_⟩
   simp only [Fr.get] at ht
   by_cases e : Nat.beq k t = true
   · rw [e] at ht
     simp only [cond_true, Option.some.injEq] at ht
     have e' : k = t := Nat.eq_of_beq_eq_true e
     subst e' ht
     exact h.get _ _ h1
   · have e' : Nat.beq k t = false := eq_false_of_ne_true e
     rw [e'] at ht
     exact ih.get t v ht
inductive KI where
  | c (c : Code)
  | b (id : Nat)
  | s (m : Nat) (body : Code)
  | inv (I : Act → World → Prop)
  | lp (m : Nat) (body : Code)
def LQ (P : Program) (body : Code) (Q : Exit → Act → World → Prop) : Nat → Exit → Act → World → Prop
 | 0, e, a, w => match e with
   | .normal => False
   | e => Q e a w
 | m + 1, e, a, w => match e with
   | .normal => body.wp P (LQ P body Q m) a w
   | e => Q e a w
def SQ (P : Program) (body : Code) (Q : Exit → Act → World → Prop) : Nat → Exit → Act → World → Prop
 | 0, e, a, w => match e with
   | .goto _ => False
   | e => Q e a w
 | m + 1, e, a, w => match e with
   | .goto l => ∃ rest, findLabel body l = some rest ∧ rest.wp P (SQ P body Q m) a w
   | e => Q e a w
def KQ (P : Program) (fin : Exit → Act → World → Prop) : List KI → Exit → Act → World → Prop
 | [], e, a, w => fin e a w
 | .c y :: k, .normal, a, w => y.wp P (KQ P fin k) a w
 | .c _ :: k, e, a, w => KQ P fin k e a w
 | .b _ :: k, .normal, a, w => KQ P fin k .normal a w
 | .b id :: k, .exit id', a, w => if id' = id then KQ P fin k .normal a w else KQ P fin k (.exit id') a w
 | .b _ :: k, e, a, w => KQ P fin k e a w
 | .s m body :: k, e, a, w => SQ P body (KQ P fin k) m e a w
 | .inv I :: _, .normal, a, w => I a w
 | .inv _ :: k, e, a, w => KQ P fin k e a w
 | .lp m body :: k, e, a, w => LQ P body (KQ P fin k) m e a w
theorem lN {P : Program} {body : Code} {Q : Exit → Act → World → Prop} {m : Nat} {e : Exit} {a : Act} {w : World} (h : e ≠ .normal) : LQ P body Q m e a w = Q e a w := by
 cases m <;> cases e <;> first | rfl | exact absurd rfl h
theorem pI {P : Program} {body : Code} {Q : Exit → Act → World → Prop} {m : Nat} {e : Exit} {a : Act} {w : World} (h : ∀ l, e ≠ .goto l) : SQ P body Q m e a w = Q e a w := by
 cases m <;> cases e <;> first | rfl | exact absurd rfl (h _)
theorem dy (P : Program) (fin : Exit → Act → World → Prop) (a : Act) (w : World) : ∀ k : List KI, KQ P fin k .ret a w = fin .ret a w
 | [] => rfl
 | .c _ :: k => by simp only [KQ]; exact dy P fin a w k
 | .b _ :: k => by simp only [KQ]; exact dy P fin a w k
 | .s _ _ :: k => by simp only [KQ]; rw [pI (fun l h => by cases h)]; exact dy P fin a w k
 | .inv _ :: k => by simp only [KQ]; exact dy P fin a w k
 | .lp _ _ :: k => by simp only [KQ]; rw [lN (fun h => by cases h)]; exact dy P fin a w k
def TW (P : Program) (fin : Exit → Act → World → Prop) (n : Nat) (k : List KI) (f : Fr) (w : World) : Prop := ∀ a, Kn n f a → KQ P fin k .normal a w
section
variable {P : Program} {fin : Exit → Act → World → Prop} {n : Nat} {k : List KI} {f : Fr} {w : World}
theorem aW (g : Fr) (hs : Fr.sub g f) (h : TW P fin n k g w) : TW P fin n k f w := fun a ha => h a (ha.sub hs)
theorem aS {x y : Code} (h : TW P fin n (.c x :: .c y :: k) f w) : TW P fin n (.c (.seq x y) :: k) f w := by
 intro a ha
 have h' := h a ha
 simp only [KQ] at h' ⊢
 refine wp_seq (Code.wp_mono (fun e a w q => ?_) h')
 cases e <;> exact q
theorem a8 (h : TW P fin n k f w) : TW P fin n (.c .skip :: k) f w := fun a ha => wp_skip (h a ha)
theorem j8 {l : Nat} (h : TW P fin n k f w) : TW P fin n (.c (.label l) :: k) f w := fun a ha => wp_label (h a ha)
theorem a5 {id : Nat} {c : Code} (h : TW P fin n (.c c :: .b id :: k) f w) : TW P fin n (.c (.block id c) :: k) f w := by
 intro a ha
 have h' := h a ha
 simp only [KQ] at h' ⊢
 refine wp_block (Code.wp_mono (fun e a w q => ?_) h')
 cases e <;> exact q
theorem bg {id : Nat} (h : TW P fin n k f w) : TW P fin n (.b id :: k) f w := fun a ha => h a ha
theorem mV {body : Code} {Q : Exit → Act → World → Prop} : ∀ (m : Nat) (c : Code) (a : Act) (w : World), c.wp P (SQ P body Q m) a w → ∀ (b : Frame) (k : List Item) (cs : List Frame),
   ∃ e a' w', Q e a' w' ∧ Arrives P (lone (b.at a (.code c :: .inScope body :: k)) cs w) b k cs e a' w' := by
 intro m
 induction m with
 | zero =>
   intro c a w h b k cs
   obtain ⟨e, a₁, w₁, hq, harr⟩ := h b (.inScope body :: k) cs
   cases e with
   | normal => exact ⟨.normal, a₁, w₁, hq, Steps.trans harr (.one step_inScope)⟩
   | exit id => exact ⟨.exit id, a₁, w₁, hq, fun k' hk => harr k' (by simp [exitTo, hk])⟩
   | goto l => exact hq.elim
   | ret => exact ⟨_, a₁, w₁, hq, harr⟩
   | panic ch => exact ⟨_, a₁, w₁, hq, harr⟩
   | outgrown => exact ⟨_, a₁, w₁, hq, harr⟩
 | succ m ih =>
   intro c a w h b k cs
   obtain ⟨e, a₁, w₁, hq, harr⟩ := h b (.inScope body :: k) cs
   cases e with
   | normal => exact ⟨.normal, a₁, w₁, hq, Steps.trans harr (.one step_inScope)⟩
   | exit id => exact ⟨.exit id, a₁, w₁, hq, fun k' hk => harr k' (by simp [exitTo, hk])⟩
   | goto l =>
     obtain ⟨rest, hf, hr⟩ := hq
     obtain ⟨e₂, a₂, w₂, hq₂, harr₂⟩ := ih rest a₁ w₁ hr b k cs
     exact ⟨e₂, a₂, w₂, hq₂, .of_steps (harr _ (by simp [gotoIn, hf])) harr₂⟩
   | ret => exact ⟨_, a₁, w₁, hq, harr⟩
   | panic ch => exact ⟨_, a₁, w₁, hq, harr⟩
   | outgrown => exact ⟨_, a₁, w₁, hq, harr⟩
theorem j7 (m : Nat) {body : Code} (h : TW P fin n (.c body :: .s m body :: k) f w) : TW P fin n (.c (.scope body) :: k) f w := by
 intro a ha b k' cs
 have h' := h a ha
 simp only [KQ] at h'
 obtain ⟨e, a₁, w₁, hq, harr⟩ := mV m body a w h' b k' cs
 exact ⟨e, a₁, w₁, hq, .of_steps (.one step_scope) harr⟩
def gotoK (l : Nat) : List KI → Option (List KI)
 | [] => none
 | .s 0 _ :: _ => none
 | .s (m + 1) body :: k => match findLabel body l with
   | some rest => some (.c rest :: .s m body :: k)
   | none => none
 | _ :: k => gotoK l k
theorem fq {l : Nat} {a : Act} {w : World} : ∀ {k k' : List KI}, gotoK l k = some k' → KQ P fin k' .normal a w → KQ P fin k (.goto l) a w
 | [], _, h, _ => by cases h
 | .s 0 _ :: _, _, h, _ => by cases h
 | .s (m + 1) body :: k, k', h, hk => by
   simp only [gotoK] at h
   split at h
   · rename_i rest hf
     simp only [Option.some.injEq] at h
     subst h
     simp only [KQ] at hk ⊢
     refine ⟨rest, hf, ?_⟩
     exact Code.wp_mono (fun e a w q => by simpa only [KQ] using q) hk
   · cases h
 | .c _ :: k, k', h, hk => by simp only [gotoK] at h; simp only [KQ]; exact fq h hk
 | .b _ :: k, k', h, hk => by simp only [gotoK] at h; simp only [KQ]; exact fq h hk
 | .inv _ :: k, k', h, hk => by simp only [gotoK] at h; simp only [KQ]; exact fq h hk
 | .lp _ _ :: k, k', h, hk => by simp only [gotoK] at h; simp only [KQ]; rw [lN (fun h => by cases h)]; exact fq h hk
theorem lW {l : Nat} {k' : List KI} (he : gotoK l k = some k') (h : TW P fin n k' f w) : TW P fin n (.c (.goto l) :: k) f w :=
 fun a ha => wp_goto (fq he (h a ha))
def exitK (id : Nat) : List KI → Option (List KI)
 | [] => none
 | .b id' :: k => bif Nat.beq id' id then some k else exitK id k
 | _ :: k => exitK id k
theorem eq {id : Nat} {a : Act} {w : World} : ∀ {k k' : List KI}, exitK id k = some k' → KQ P fin k' .normal a w → KQ P fin k (.exit id) a w
 | [], _, h, _ => by cases h
 | .b id' :: k, k', h, hk => by
   simp only [exitK] at h
   simp only [KQ]
   by_cases e : Nat.beq id' id = true
   · rw [e] at h
     simp only [cond_true, Option.some.injEq] at h
     subst h
     rw [if_pos (Nat.eq_of_beq_eq_true e).symm]; exact hk
   · have e' : Nat.beq id' id = false := eq_false_of_ne_true e
     rw [e'] at h
     have hne : ¬ id = id' := fun hh => by subst hh; simp at e'
     rw [if_neg hne]
     exact eq h hk
 | .c _ :: k, k', h, hk => by simp only [exitK] at h; simp only [KQ]; exact eq h hk
 | .s _ _ :: k, k', h, hk => by simp only [exitK] at h; simp only [KQ]; rw [pI (fun l h => by cases h)]; exact eq h hk
 | .inv _ :: k, k', h, hk => by simp only [exitK] at h; simp only [KQ]; exact eq h hk
 | .lp _ _ :: k, k', h, hk => by simp only [exitK] at h; simp only [KQ]; rw [lN (fun h => by cases h)]; exact eq h hk
theorem bE {id : Nat} {k' : List KI} (he : exitK id k = some k') (h : TW P fin n k' f w) : TW P fin n (.c (.exit id) :: k) f w :=
 fun a ha => wp_exit (eq he (h a ha))
theorem dH {c : Operand} {x y : Code} {t : Bool} (hc : f.ev c = some (.bool t)) (ht : t = true → TW P fin n (.c x :: k) f w) (hf : t = false → TW P fin n (.c y :: k) f w) :
   TW P fin n (.c (.cond c x y) :: k) f w := fun a ha => wp_cond_split (ha.ev hc) (fun h => ht h a ha) (fun h => hf h a ha)
theorem iW {c : Operand} {x y : Code} (hc : f.ev c = some (.bool false)) (h : TW P fin n (.c y :: k) f w) :
   TW P fin n (.c (.cond c x y) :: k) f w := fun a ha => wp_cond_false (ha.ev hc) (h a ha)
theorem bo {c : Operand} {x y : Code} {p : Prop} [Decidable p] (hc : f.ev c = some (.bool (decide p))) (ht : p → TW P fin n (.c x :: k) f w) (hf : ¬ p → TW P fin n (.c y :: k) f w) :
   TW P fin n (.c (.cond c x y) :: k) f w :=
 dH hc (fun h => ht (of_decide_eq_true h)) (fun h => hf (of_decide_eq_false h))
theorem bF {c : Operand} {x y : Code} {p : Prop} [Decidable p] (hc : f.ev c = some (.bool (decide p))) (hp : p) (h : TW P fin n (.c x :: k) f w) : TW P fin n (.c (.cond c x y) :: k) f w :=
 bo hc (fun _ => h) (fun hn => absurd hp hn)
theorem cU {c : Operand} {x y : Code} {p : Prop} [Decidable p] (hc : f.ev c = some (.bool (decide p))) (hp : ¬ p) (h : TW P fin n (.c y :: k) f w) : TW P fin n (.c (.cond c x y) :: k) f w :=
 bo hc (fun hn => absurd hn hp) (fun _ => h)
theorem nO {c : Operand} {x y : Code} {t : Bool} (hc : f.ev c = some (.bool t)) (ht : t = true) (h : TW P fin n (.c x :: k) f w) : TW P fin n (.c (.cond c x y) :: k) f w :=
 dH hc (fun _ => h) (fun hf => by rw [ht] at hf; cases hf)
theorem fS {c : Operand} {x y : Code} {t : Bool} (hc : f.ev c = some (.bool t)) (ht : t = false) (h : TW P fin n (.c y :: k) f w) : TW P fin n (.c (.cond c x y) :: k) f w :=
 dH hc (fun hf => by rw [ht] at hf; cases hf) (fun _ => h)
theorem oH {body : Code} {Q : Exit → Act → World → Prop} : ∀ (m : Nat) (a : Act) (w : World), body.wp P (LQ P body Q m) a w → ∀ (b : Frame) (k : List Item) (cs : List Frame),
   ∃ e a' w', Q e a' w' ∧ Arrives P (lone (b.at a (.code body :: .inLoop body :: k)) cs w) b k cs e a' w' := by
 intro m
 induction m with
 | zero =>
   intro a w h b k cs
   obtain ⟨e, a₁, w₁, hq, harr⟩ := h b (.inLoop body :: k) cs
   cases e with
   | normal => exact hq.elim
   | exit id => exact ⟨_, a₁, w₁, hq, .pass (x := .inLoop body) rfl (fun _ _ => .inl (by simp)) harr⟩
   | goto l => exact ⟨_, a₁, w₁, hq, .pass (x := .inLoop body) rfl (fun _ _ => .inl (by simp)) harr⟩
   | ret => exact ⟨_, a₁, w₁, hq, .pass (x := .inLoop body) rfl (fun _ _ => .inl (by simp)) harr⟩
   | panic ch => exact ⟨_, a₁, w₁, hq, .pass (x := .inLoop body) rfl (fun _ _ => .inl (by simp)) harr⟩
   | outgrown => exact ⟨_, a₁, w₁, hq, .pass (x := .inLoop body) rfl (fun _ _ => .inl (by simp)) harr⟩
 | succ m ih =>
   intro a w h b k cs
   obtain ⟨e, a₁, w₁, hq, harr⟩ := h b (.inLoop body :: k) cs
   cases e with
   | normal =>
     obtain ⟨e₂, a₂, w₂, hq₂, harr₂⟩ := ih a₁ w₁ hq b k cs
     exact ⟨e₂, a₂, w₂, hq₂, .of_steps (Steps.trans harr (.one step_inLoop)) harr₂⟩
   | exit id => exact ⟨_, a₁, w₁, hq, .pass (x := .inLoop body) rfl (fun _ _ => .inl (by simp)) harr⟩
   | goto l => exact ⟨_, a₁, w₁, hq, .pass (x := .inLoop body) rfl (fun _ _ => .inl (by simp)) harr⟩
   | ret => exact ⟨_, a₁, w₁, hq, .pass (x := .inLoop body) rfl (fun _ _ => .inl (by simp)) harr⟩
   | panic ch => exact ⟨_, a₁, w₁, hq, .pass (x := .inLoop body) rfl (fun _ _ => .inl (by simp)) harr⟩
   | outgrown => exact ⟨_, a₁, w₁, hq, .pass (x := .inLoop body) rfl (fun _ _ => .inl (by simp)) harr⟩
theorem dQ (m : Nat) {body : Code} (h : TW P fin n (.c body :: .lp m body :: k) f w) : TW P fin n (.c (.loop body) :: k) f w := by
 intro a ha b k' cs
 have h' := h a ha
 simp only [KQ] at h'
 obtain ⟨e, a₁, w₁, hq, harr⟩ := oH m a w h' b k' cs
 exact ⟨e, a₁, w₁, hq, .of_steps (.one step_loop) harr⟩
theorem bn {m : Nat} {body : Code} (h : TW P fin n (.c body :: .lp m body :: k) f w) : TW P fin n (.lp (m + 1) body :: k) f w := by
 intro a ha
 have h' := h a ha
 simp only [KQ] at h' ⊢
 exact h'
theorem bi {Γ : Type} {body : Code} (fr : Γ → Fr) (I : Γ → World → Prop) (μ : Γ → Nat) (γ₀ : Γ) (h0 : Fr.sub (fr γ₀) f) (hI : I γ₀ w)
   (round : ∀ γ w, I γ w → TW P fin n (.c body :: .inv (fun a' w' => ∃ γ', μ γ' < μ γ ∧ Kn n (fr γ') a' ∧ I γ' w') :: k) (fr γ) w) :
   TW P fin n (.c (.loop body) :: k) f w := by
 intro a ha
 simp only [KQ]
 refine wp_loop_ghost (fun m a w => ∃ γ, μ γ = m ∧ Kn n (fr γ) a ∧ I γ w) (μ γ₀) ⟨γ₀, rfl, ha.sub h0, hI⟩ ?_
 rintro m a w ⟨γ, rfl, hk, hi⟩
 have h' := round γ w hi a hk
 simp only [KQ] at h'
 refine Code.wp_mono (fun e a w q => ?_) h'
 cases e with
 | normal =>
   obtain ⟨γ', hlt, hk', hi'⟩ := q
   exact ⟨μ γ', hlt, γ', rfl, hk', hi'⟩
 | _ => exact q
theorem cA {Γ : Type} {fr : Γ → Fr} {I : Γ → World → Prop} {μ : Γ → Nat} {m : Nat} (γ' : Γ) (hs : Fr.sub (fr γ') f) (hm : μ γ' < m) (hi : I γ' w) :
   TW P fin n (.inv (fun a' w' => ∃ γ', μ γ' < m ∧ Kn n (fr γ') a' ∧ I γ' w') :: k) f w :=
 fun _ ha => ⟨γ', hm, ha.sub hs, hi⟩
def OW (P : Program) (fin : Exit → Act → World → Prop) (n : Nat) (k : List KI) (ops : Array Oper) (l : List Oper) (f : Fr) (w : World) : Prop :=
 ∀ a, Kn n f a → wpList P ops (KQ P fin k) l a w
variable {ops : Array Oper} {l : List Oper}
theorem aR {id : Nat} {l : List Oper} (h : OW P fin n k l.toArray l f w) : TW P fin n (.c (.region id l.toArray false) :: k) f w :=
 fun a ha => wp_region_lit (h a ha)
theorem aT (h : TW P fin n k f w) : OW P fin n k ops [] f w := fun a ha => wpList_nil (h a ha)
theorem ow_val {op : Op} {d : Nat} {ty : TypeId} {pos : String} {aft : Array Edge} (v : Value) (w' : World)
   (hr : ∀ a, Kn n f a → (execOp a.eval ⟨some d, op, ty, pos, aft, none⟩).run P w = .ok (.value v) w') (hd : d < n)
   (h : OW P fin n k ops l ((d, v) :: f) w') : OW P fin n k ops (⟨some d, op, ty, pos, aft, none⟩ :: l) f w := by
 intro a ha
 refine wpList_plain rfl fun K hK => ?_
 unfold Oper.wp
 rw [hr a ha]
 exact hK _ _ (h _ (ha.put hd v))
theorem dS {o : Oper} {j : Nat} {want b : Bool} {oj : Oper} {d d' : Nat} (hg : o.guard = some (j, want)) (hj : ops[j]? = some oj) (hd : oj.dst = some d) (hf : f.get d = some (.bool b))
   (hb : b ≠ want) (ho : o.dst = some d') (hd' : d' < n)
   (h : OW P fin n k ops l ((d', undef) :: f) w) : OW P fin n k ops (o :: l) f w := by
 intro a ha
 have hv := ha.get d _ hf
 have hlt : d < a.tmps.size := by
   rcases Nat.lt_or_ge d a.tmps.size with h | h
   · exact h
   · rw [Array.getD_eq_getD_getElem?, Array.getElem?_eq_none h] at hv; cases hv
 have hy : yielded ops a.tmps j = some b := by
   have e : a.tmps[d]? = some (.bool b) := by
     rw [Array.getElem?_eq_getElem hlt]
     rw [Array.getD_eq_getD_getElem?, Array.getElem?_eq_getElem hlt] at hv
     simpa using hv
   simp [yielded, hj, hd, e]
 unfold wpList
 rw [if_neg (by simp [Region.wanted, hg, hy, hb]), ho]
 exact h _ (ha.put hd' undef)
end
def CallOk (P : Program) (i : FuncId) : Prop := ∃ fn, P.funcs[i]? = some fn ∧ fn.body.isSome = true ∧ (fn.name == "runtime.NumGoroutine") = false
structure Rets (P : Program) (i : FuncId) (args : List Value) (w : World) (R : Value → World → Prop) : Prop where
  ok : CallOk P i
  calls : Calls P i args.toArray w fun e w' => ∃ v, e = .returned v ∧ R v w'
theorem Rets.mono {P : Program} {i : FuncId} {args : List Value} {w : World} {R R' : Value → World → Prop} (h : Rets P i args w R) (hr : ∀ v w', R v w' → R' v w') : Rets P i args w R' :=
 ⟨h.ok, Calls.mono h.calls fun _ w' ⟨v, he, hv⟩ => ⟨v, he, hr v w' hv⟩⟩
def argFr : Nat → List Value → Fr
 | _, [] => []
 | i, v :: r => (i, v) :: argFr (i + 1) r
theorem iw : ∀ (vs : List Value) (i t : Nat) (v : Value), Fr.get (argFr i vs) t = some v → i ≤ t ∧ vs[t - i]? = some v
 | [], _, _, _, h => by cases h
 | u :: r, i, t, v, h => by
   simp only [argFr, Fr.get] at h
   by_cases e : Nat.beq i t = true
   · rw [e] at h
     simp only [cond_true, Option.some.injEq] at h
     have e' : i = t := Nat.eq_of_beq_eq_true e
     subst e' h
     simp
   · have e' : Nat.beq i t = false := eq_false_of_ne_true e
     rw [e'] at h
     have ih := iw r (i + 1) t v h
     refine ⟨by omega, ?_⟩
     have : t - i = (t - (i + 1)) + 1 := by omega
     rw [this]
     simpa using ih.2
theorem a7 {P : Program} {i : FuncId} {fn : Func} {c : Code} {args : List Value} {w : World} {R : Value → World → Prop} {n : Nat}
   (hf : P.funcs[i]? = some fn) (hb : fn.body = some c) (hnm : (fn.name == "runtime.NumGoroutine") = false) (hn : fn.ntmps = n) (hle : Nat.ble args.length n = true)
   (h : ∀ fin, (∀ e a w, fin e a w → bodyPost P fn (fun e w' => ∃ v, e = .returned v ∧ R v w') e a w) → (∀ a w, (a.defers = [] ∧ ∃ v, (results fn a.tmps).run P w = .ok v w ∧ R v w) → fin .ret a w ∧ fin .normal a w) →
     TW P fin n [.c c] (argFr 0 args) w) : Rets P i args w R := by
 replace hle := Nat.le_of_ble_eq_true hle
 refine ⟨⟨fn, hf, by rw [hb]; rfl, hnm⟩, calls_of_wp hf hb ?_⟩
 have hk : Kn n (argFr 0 args) { tmps := args.toArray ++ Array.replicate (fn.ntmps - args.toArray.size) undef, defers := [] } := by
   refine ⟨by simp [hn]; omega, rfl, fun t v ht => ?_⟩
   have := (iw args 0 t v ht).2
   simp only [Nat.sub_zero] at this
   have hlt : t < args.length := by
     rcases Nat.lt_or_ge t args.length with h | h
     · exact h
     · rw [List.getElem?_eq_none h] at this; cases this
   rw [Array.getD_eq_getD_getElem?, Array.getElem?_append_left (by simpa using hlt)]
   simp [this]
 have h' := h (bodyPost P fn (fun e w' => ∃ v, e = .returned v ∧ R v w')) (fun _ _ _ q => q)
   (fun a w ⟨hd, v, hr, hR⟩ => ⟨⟨hd, v, hr, v, rfl, hR⟩, ⟨hd, v, hr, v, rfl, hR⟩⟩) _ hk
 simp only [KQ] at h'
 refine Code.wp_mono (fun e a w q => ?_) h'
 cases e <;> exact q
section
variable {P : Program} {fin : Exit → Act → World → Prop} {n : Nat} {k : List KI} {f : Fr} {w : World} {fn : Func} {R : Value → World → Prop}
theorem tw_end0 (hfin : ∀ a w, (a.defers = [] ∧ ∃ v, (results fn a.tmps).run P w = .ok v w ∧ R v w) → fin .ret a w ∧ fin .normal a w) (hres : fn.results = #[]) (hR : R (.tuple #[]) w) :
   TW P fin n [] f w := fun a ha => (hfin a w ⟨ha.defers, _, results_none hres _ _ _, hR⟩).2
theorem bD (hfin : ∀ a w, (a.defers = [] ∧ ∃ v, (results fn a.tmps).run P w = .ok v w ∧ R v w) → fin .ret a w ∧ fin .normal a w) {t : Nat} (hres : fn.results = #[.tmp t]) {v : Value} (hv : f.get t = some v) (hR : R v w) :
   TW P fin n (.c .ret :: k) f w := fun a ha => wp_ret (by
 rw [dy]
 refine (hfin a w ⟨ha.defers, _, results_tmp hres _ _ _, ?_⟩).1
 rw [ha.get t v hv]; exact hR)
theorem dk (hfin : ∀ a w, (a.defers = [] ∧ ∃ v, (results fn a.tmps).run P w = .ok v w ∧ R v w) → fin .ret a w ∧ fin .normal a w) {t u : Nat} (hres : fn.results = #[.tmp t, .tmp u]) {v v' : Value} (hv : f.get t = some v) (hv' : f.get u = some v')
   (hR : R (.tuple #[v, v']) w) : TW P fin n (.c .ret :: k) f w := fun a ha => wp_ret (by
 rw [dy]
 refine (hfin a w ⟨ha.defers, _, results_tmp2 hres _ _ _, ?_⟩).1
 rw [ha.get t v hv, ha.get u v' hv']; exact hR)
theorem jD {fn : Func} {t u s : Tmp} (h : fn.results = #[.tmp t, .tmp u, .tmp s]) (tmps : Array Value) (P : Program) (w : World) :
   (results fn tmps).run P w = .ok (.tuple #[tmps.getD t undef, tmps.getD u undef, tmps.getD s undef]) w := by
 simp [results, h]
theorem lV (hfin : ∀ a w, (a.defers = [] ∧ ∃ v, (results fn a.tmps).run P w = .ok v w ∧ R v w) → fin .ret a w ∧ fin .normal a w) {t u s : Nat} (hres : fn.results = #[.tmp t, .tmp u, .tmp s]) {v v' v'' : Value} (hv : f.get t = some v) (hv' : f.get u = some v') (hv'' : f.get s = some v'')
   (hR : R (.tuple #[v, v', v'']) w) : TW P fin n (.c .ret :: k) f w := fun a ha => wp_ret (by
 rw [dy]
 refine (hfin a w ⟨ha.defers, _, jD hres _ _ _, ?_⟩).1
 rw [ha.get t v hv, ha.get u v' hv', ha.get s v'' hv'']; exact hR)
end
end Go.Eng
namespace Go.Eng
open Go Go.IntWalk
structure Keep (S : List Nat) (w w' : World) : Prop where
  os : w'.os = w.os
  tape : w'.tape = w.tape
  output : w'.output = w.output
  size : w.heap.size ≤ w'.heap.size
  block : ∀ k, k < w.heap.size → k ∉ S → w'.heap[k]? = w.heap[k]?
theorem Keep.refl (S : List Nat) (w : World) : Keep S w w := ⟨rfl, rfl, rfl, Nat.le_refl _, fun _ _ _ => rfl⟩
theorem Keep.trans {S : List Nat} {a b c : World} (h : Keep S a b) (k : Keep S b c) : Keep S a c :=
 ⟨k.os.trans h.os, k.tape.trans h.tape, k.output.trans h.output, Nat.le_trans h.size k.size, fun i hi hs => (k.block i (Nat.lt_of_lt_of_le hi h.size) hs).trans (h.block i hi hs)⟩
theorem Keep.mono {S S' : List Nat} {w w' : World} (h : Keep S w w') (hs : ∀ x, x ∈ S → x ∈ S') : Keep S' w w' := ⟨h.os, h.tape, h.output, h.size, fun k hk hn => h.block k hk (fun hm => hn (hs k hm))⟩
theorem Keep.weak {S : List Nat} {w w' : World} (h : Keep [] w w') : Keep S w w' := h.mono (fun _ hx => by cases hx)
theorem Keep.below {S : List Nat} {w w' : World} {B : Nat} (h : Keep S w w') (hB : B ≤ w.heap.size) (hS : ∀ x, x ∈ S → B ≤ x) : RowKit.Below B w w' :=
 ⟨h.os, h.tape, h.output, h.size, fun k hk => h.block k (Nat.lt_of_lt_of_le hk hB) (fun hm => by have := hS k hm; omega)⟩
theorem Keep.below0 {w w' : World} (h : Keep [] w w') : RowKit.Below w.heap.size w w' := h.below (Nat.le_refl _) (fun x hx => by cases hx)
theorem Keep.new {S S' : List Nat} {w w1 w2 : World} (h : Keep S w w1) (k : Keep S' w1 w2) (hS : ∀ x, x ∈ S' → w.heap.size ≤ x ∨ x ∈ S) : Keep S w w2 :=
 ⟨k.os.trans h.os, k.tape.trans h.tape, k.output.trans h.output, Nat.le_trans h.size k.size, fun i hi hs =>
   (k.block i (Nat.lt_of_lt_of_le hi h.size) (fun hm => by rcases hS i hm with h1 | h1; · omega
                                                           · exact hs h1)).trans (h.block i hi hs)⟩
theorem ce (w : World) (o : Obj) : Keep [] w (w.alloc o) :=
 ⟨rfl, rfl, rfl, by simp, fun k hk _ => RowKit.Below.heap_alloc _ _ _ hk⟩
theorem cj (w : World) : Keep [] w w.drew := ⟨rfl, rfl, rfl, Nat.le_refl _, fun _ _ _ => rfl⟩
theorem jQ (w : World) (a : Addr) (v : Value) : Keep [a.block] w (w.setCell a v) :=
 ⟨rfl, rfl, rfl, by simp, fun k _ hn => RowKit.Below.heap_setCell _ _ _ _ (fun e => hn (by simp [e]))⟩
def Bk (w : World) (b : Nat) (T : TypeId) (cs : List Value) : Prop := w.heap[b]? = some (.cells cs.toArray T (0, 0))
theorem Bk.lt {w : World} {b : Nat} {T : TypeId} {cs : List Value} (h : Bk w b T cs) : b < w.heap.size := by
 rcases Nat.lt_or_ge b w.heap.size with h' | h'
 · exact h'
 · unfold Bk at h; rw [Array.getElem?_eq_none h'] at h; cases h
theorem Bk.keep {S : List Nat} {w w' : World} {b : Nat} {T : TypeId} {cs : List Value} (h : Bk w b T cs) (k : Keep S w w') (hn : b ∉ S) : Bk w' b T cs := by
 unfold Bk; rw [k.block b h.lt hn]; exact h
theorem Bk.cell {w : World} {b : Nat} {T : TypeId} {cs : List Value} (h : Bk w b T cs) (o : Nat) : w.cell? ⟨b, o, none⟩ = cs[o]? := by
 unfold Bk at h; simp [World.cell?, h]
theorem Bk.frozen {w : World} {b : Nat} {T : TypeId} {cs : List Value} (h : Bk w b T cs) (o : Nat) : w.frozen? ⟨b, o, none⟩ = false := by
 unfold Bk at h
 simp only [World.frozen?, h]
 simp
theorem fo (w : World) (T : TypeId) (cs : List Value) : Bk (w.alloc (.cells cs.toArray T)) w.heap.size T cs := by
 show (w.heap.push _)[w.heap.size]? = _
 simp
theorem Bk.set {w : World} {b : Nat} {T : TypeId} {cs : List Value} (h : Bk w b T cs) (o : Nat) (v : Value) : Bk (w.setCell ⟨b, o, none⟩ v) b T (cs.set o v) := by
 unfold Bk at h ⊢
 simp [World.setCell, Array.getElem?_modify, h]
def Row (w : World) (a : Addr) (cs : List Value) : Prop := ∀ j u, cs[j]? = some u → w.cell? (a.add j) = some u
theorem Row.keep {S : List Nat} {w w' : World} {a : Addr} {cs : List Value} (h : Row w a cs) (k : Keep S w w') (hn : a.block ∉ S) : Row w' a cs := by
 intro j u hj
 have h1 := h j u hj
 have hb : (a.add j).block = a.block := by unfold Addr.add; split <;> rfl
 rw [World.cell?_of_block (w := w)]
 · exact h1
 · exact k.block _ (World.block_lt_of_cell? _ _ h1) (by rw [hb]; exact hn)
theorem Row.drop {w : World} {a : Addr} {cs : List Value} (h : Row w a cs) (i : Nat) : Row w (a.add i) (cs.drop i) := by
 intro j u hj
 rw [List.getElem?_drop] at hj
 have h1 := h (i + j) u hj
 by_cases e : i = 0
 · subst e; simpa [Addr.add_zero', Addr.add] using h1
 · obtain ⟨b, o, s⟩ := a
   have e1 : (Addr.add ⟨b, o, s⟩ i) = ⟨b, o + i, none⟩ := by simp [Addr.add, e]
   have e2 : (Addr.add ⟨b, o, s⟩ (i + j)) = ⟨b, o + (i + j), none⟩ := by simp [Addr.add]; omega
   rw [e1]; rw [e2] at h1
   rw [Addr.add_lit, Nat.add_assoc]; exact h1
theorem Row.take {w : World} {a : Addr} {cs : List Value} (h : Row w a cs) (i : Nat) : Row w a (cs.take i) := by
 intro j u hj
 rw [List.getElem?_take] at hj
 split at hj
 · exact h j u hj
 · cases hj
theorem Bk.row {w : World} {b : Nat} {T : TypeId} {cs : List Value} (h : Bk w b T cs) : Row w ⟨b, 0, none⟩ cs := by
 intro j u hj
 rw [Addr.add_lit, Nat.zero_add, h.cell]; exact hj
def Rd (w : World) (s : Nat) (v : Value) (n : Nat) (cs : List Value) : Prop :=
 ∃ A c, v = .slice A n c ∧ n ≤ c ∧ c ≤ maxLen ∧ cs.length = n * s ∧ (A = none → c = 0) ∧ ∀ a, A = some a → Row w a cs
def vblk : Value → List Nat
 | .slice (some a) _ _ => [a.block]
 | .pointer (some a) => [a.block]
 | _ => []
def isNil : Value → Bool
 | .slice none _ _ => true
 | .pointer none => true
 | .nilIface => true
 | _ => false
def vcap : Value → Nat
 | .slice _ _ c => c
 | _ => 0
def ea (v : Value) (i : Nat) : Addr :=
 match v with
 | .slice (some a) _ _ => a.add i
 | _ => ⟨0, 0, none⟩
def cut (v : Value) (l h s : Nat) : Value :=
 match v with
 | .slice a _ c => .slice (if c = l then a else a.map (·.add (l * s))) (h - l) (c - l)
 | v => v
theorem Rd.keep {S : List Nat} {w w' : World} {s n : Nat} {v : Value} {cs : List Value} (h : Rd w s v n cs) (k : Keep S w w') (hn : ∀ x, x ∈ vblk v → x ∉ S) : Rd w' s v n cs := by
 obtain ⟨A, c, rfl, h1, h2, h3, h4, h5⟩ := h
 exact ⟨A, c, rfl, h1, h2, h3, h4, fun a ha => (h5 a ha).keep k (hn _ (by subst ha; simp [vblk]))⟩
theorem Rd.pK {w w' : World} {s n : Nat} {v : Value} {cs : List Value} (h : Rd w s v n cs) (k : Keep [] w w') : Rd w' s v n cs := h.keep k (fun _ _ h => by cases h)
theorem Rd.len {w : World} {s n : Nat} {v : Value} {cs : List Value} (h : Rd w s v n cs) : cs.length = n * s := by
 obtain ⟨A, c, rfl, h1, h2, h3, h4, h5⟩ := h; exact h3
theorem Rd.le {w : World} {s n : Nat} {v : Value} {cs : List Value} (h : Rd w s v n cs) : n ≤ 9223372036854775807 := by
 obtain ⟨A, c, rfl, h1, h2, h3, h4, h5⟩ := h; unfold maxLen at h2; omega
theorem Rd.one {w : World} {s n : Nat} {v : Value} {cs : List Value} (h : Rd w s v n cs) : v.oneCell' = true := by
 obtain ⟨A, c, rfl, _⟩ := h; rfl
theorem Rd.cells {w : World} {s n : Nat} {v : Value} {cs : List Value} (h : Rd w s v n cs) : v.cells = #[v] := by
 obtain ⟨A, c, rfl, _⟩ := h; rfl
theorem Rd.cut {w : World} {s n : Nat} {v : Value} {cs : List Value} (h : Rd w s v n cs) {l hi : Nat} (h1 : l ≤ hi) (h2 : hi ≤ n) : Rd w s (cut v l hi s) (hi - l) ((cs.drop (l * s)).take ((hi - l) * s)) := by
 obtain ⟨A, c, rfl, h3, h4, h5, h6, h7⟩ := h
 refine ⟨_, _, rfl, by omega, by omega, ?_, ?_, ?_⟩
 · rw [List.length_take, List.length_drop, h5, ← Nat.sub_mul]
   exact Nat.min_eq_left (Nat.mul_le_mul_right _ (by omega))
 · intro h8
   split at h8
   · omega
   · cases A with
     | none => have := h6 rfl; omega
     | some a => cases h8
 · intro a ha
   split at ha
   · have e : hi - l = 0 := by omega
     rw [e, Nat.zero_mul, List.take_zero]
     intro j u hj; cases hj
   · cases A with
     | none => cases ha
     | some a0 =>
       simp only [Option.map_some, Option.some.injEq] at ha
       subst ha
       exact ((h7 a0 rfl).drop _).take _
theorem Rd.nil (w : World) (s : Nat) : Rd w s (.slice none 0 0) 0 [] := ⟨none, 0, rfl, Nat.le_refl _, Nat.zero_le _, by simp, fun _ => rfl, fun a h => by cases h⟩
theorem m9 {w : World} {lo : Nat} {e : TypeId} {s n : Nat} {v : Value} {cs : List Value} (h : w.ownsRow lo e s v n cs) : Rd w s v n cs := by
 rcases h with ⟨hl, ⟨rfl, rfl⟩ | ⟨g, cap, cur, rfl, h1, h2, h3, h4, h5, h6⟩⟩
 · simp at hl; subst hl; exact Rd.nil w s
 · refine ⟨_, cap, rfl, h3, h4, hl, (fun h => by cases h), ?_⟩
   intro a ha
   simp only [Option.some.injEq] at ha
   subst ha
   have ho : w.ownsRow lo e s (.slice (some ⟨g, 0, none⟩) n cap) n cs := ⟨hl, .inr ⟨g, cap, cur, rfl, h1, h2, h3, h4, h5, h6⟩⟩
   exact ho.cells rfl
def Own (w : World) (lo : Nat) (e : TypeId) (s : Nat) (v : Value) (n : Nat) (cs : List Value) : Prop := w.ownsRow lo e s v n cs
theorem Own.rd {w : World} {lo : Nat} {e : TypeId} {s n : Nat} {v : Value} {cs : List Value} (h : Own w lo e s v n cs) : Rd w s v n cs := m9 h
theorem dX (w : World) (lo : Nat) (e : TypeId) (s : Nat) : Own w lo e s (.slice none 0 0) 0 [] := World.ownsRow_nil w lo e s
theorem nI {v : Value} {A : Option Addr} {n c : Nat} (h : v = .slice A n c) : vblk v = v.ownBlock.toList := by
 subst h; cases A <;> rfl
theorem Own.vblk {w : World} {lo : Nat} {e : TypeId} {s n : Nat} {v : Value} {cs : List Value} (h : Own w lo e s v n cs) : vblk v = v.ownBlock.toList := by
 obtain ⟨A, c, hv, _⟩ := h.rd; exact nI hv
theorem Own.blk {w : World} {lo : Nat} {e : TypeId} {s n : Nat} {v : Value} {cs : List Value} (h : Own w lo e s v n cs) : ∀ x, x ∈ Eng.vblk v → lo ≤ x ∧ x < w.heap.size := by
 intro x hx
 rw [h.vblk] at hx
 simp only [Option.mem_toList] at hx
 exact World.ownsRow.lt h x hx
theorem Own.keep {S : List Nat} {w w' : World} {lo : Nat} {e : TypeId} {s n : Nat} {v : Value} {cs : List Value} (h : Own w lo e s v n cs) (k : Keep S w w') (hn : ∀ x, x ∈ Eng.vblk v → x ∉ S) : Own w' lo e s v n cs := by
 obtain ⟨hl, h⟩ := h
 refine ⟨hl, ?_⟩
 rcases h with h | ⟨g, cap, cur, rfl, h1, h2, r⟩
 · exact .inl h
 · exact .inr ⟨g, cap, cur, rfl, h1, by rw [k.block g (Bk.lt (cs := cur.toList) (T := e) (by simpa [Bk] using h2)) (hn g (by simp [Eng.vblk]))]; exact h2, r⟩
theorem Own.pK {w w' : World} {lo : Nat} {e : TypeId} {s n : Nat} {v : Value} {cs : List Value} (h : Own w lo e s v n cs) (k : Keep [] w w') : Own w' lo e s v n cs := h.keep k (fun _ _ h => by cases h)
theorem Own.lo {w : World} {lo lo' : Nat} {e : TypeId} {s n : Nat} {v : Value} {cs : List Value} (h : Own w lo e s v n cs) (hl : lo' ≤ lo) : Own w lo' e s v n cs := by
 obtain ⟨hl1, h⟩ := h
 refine ⟨hl1, ?_⟩
 rcases h with h | ⟨g, cap, cur, rfl, h1, r⟩
 · exact .inl h
 · exact .inr ⟨g, cap, cur, rfl, Nat.le_trans hl h1, r⟩
theorem ig {w : World} {b lo : Nat} {e : TypeId} {s n : Nat} {cs : List Value} (h : Bk w b e cs) (hl : lo ≤ b) (hn : cs.length = n * s) (hm : n ≤ maxLen) : Own w lo e s (.slice (some ⟨b, 0, none⟩) n n) n cs := by
 refine ⟨hn, .inr ⟨b, n, cs.toArray, rfl, hl, h, Nat.le_refl _, hm, by simpa using hn, ?_⟩⟩
 rw [← hn]; simp
def bv (xs : List UInt8) : List Value := xs.map fun b => .int .u8 (b.toNat : Int)
@[simp] theorem bM (xs : List UInt8) : (bv xs).length = xs.length := by simp [bv]
@[simp] theorem db (xs ys : List UInt8) : bv (xs ++ ys) = bv xs ++ bv ys := by simp [bv]
theorem lz (xs : List UInt8) (n : Nat) : (bv xs).drop n = bv (xs.drop n) := by simp [bv]
theorem g7 (xs : List UInt8) (n : Nat) : (bv xs).take n = bv (xs.take n) := by simp [bv]
theorem iQ (xs : List UInt8) : ∀ u ∈ bv xs, u.oneCell' = true := by
 intro u hu; simp only [bv, List.mem_map] at hu; obtain ⟨b, _, rfl⟩ := hu; rfl
def gb (xs : List UInt8) (i : Int) : Int := ((xs.getD i.toNat 0).toNat : Int)
theorem cc (xs : List UInt8) (i : Int) : 0 ≤ gb xs i ∧ gb xs i ≤ 255 := by
 unfold gb
 have := (xs.getD i.toNat 0).toNat_lt
 omega
theorem bv_get (xs : List UInt8) {i : Int} (h1 : i < xs.length) (h0 : 0 ≤ i) : (bv xs)[i.toNat]? = some (.int .u8 (gb xs i)) := by
 have : i.toNat < xs.length := by omega
 simp [bv, gb, this]
abbrev RdB (w : World) (v : Value) (xs : List UInt8) : Prop := Rd w 1 v xs.length (bv xs)
theorem Rd.cutB {w : World} {v : Value} {xs : List UInt8} (h : RdB w v xs) {l hi : Nat} (h1 : l ≤ hi) (h2 : hi ≤ xs.length) : RdB w (Eng.cut v l hi 1) ((xs.drop l).take (hi - l)) := by
 have h' := h.cut h1 h2
 rw [Nat.mul_one, Nat.mul_one, lz, g7] at h'
 have e : ((xs.drop l).take (hi - l)).length = hi - l := by simp; omega
 unfold RdB
 rw [e]; exact h'
def tyB (P : Program) (t : TypeId) : Option (Option (List Value) × Nat × Nat) := (P.info? t).map fun i => (i.zero.map fun z => z.cells.toList, i.size, i.bytes)
def Ty (P : Program) (t : TypeId) (zs : List Value) (size bytes : Nat) : Prop := tyB P t = some (some zs, size, bytes)
theorem Ty.parts {P : Program} {t : TypeId} {zs : List Value} {size bytes : Nat} (h : Ty P t zs size bytes) : ∃ i z, P.info? t = some i ∧ i.zero = some z ∧ z.cells.toList = zs ∧ i.size = size ∧ i.bytes = bytes := by
 unfold Ty tyB at h
 cases hi : P.info? t with
 | none => rw [hi] at h; cases h
 | some i =>
   rw [hi] at h
   simp only [Option.map_some, Option.some.injEq, Prod.mk.injEq, Option.map_eq_some_iff] at h
   obtain ⟨⟨z, hz, hz'⟩, h2, h3⟩ := h
   exact ⟨i, z, rfl, hz, hz', h2, h3⟩
theorem Ty.sizeOf {P : Program} {t : TypeId} {zs : List Value} {size bytes : Nat} (h : Ty P t zs size bytes) (w : World) : (Go.sizeOf t).run P w = .ok size w := by
 obtain ⟨i, z, hi, hz, h1, h2, h3⟩ := h.parts
 simp [Go.sizeOf, typeInfo, hi, h2]
theorem Ty.zeroValue {P : Program} {t : TypeId} {zs : List Value} {size bytes : Nat} (h : Ty P t zs size bytes) (w : World) : ∃ z, z.cells.toList = zs ∧ (Go.zeroValue t).run P w = .ok z w := by
 obtain ⟨i, z, hi, hz, h1, h2, h3⟩ := h.parts
 exact ⟨z, h1, by simp [Go.zeroValue, typeInfo, hi, hz]⟩
def scB (P : Program) (t : TypeId) : Bool := match P.underlying t with | some (.struct _) => false | some (.array _ _) => false | some _ => true | none => false
theorem i7 {P : Program} {t : TypeId} (h : scB P t = true) (w : World) : (isAgg t).run P w = .ok false w := by
 unfold scB at h
 cases hu : P.underlying t with
 | none => rw [hu] at h; cases h
 | some d =>
   rw [hu] at h
   unfold isAgg
   simp only [Sem.run_bind, run_underlying hu, Result.andThen_ok]
   cases d <;> first | rfl | cases h
def agB (P : Program) (t : TypeId) : Bool := match P.underlying t with | some (.struct _) => true | some (.array _ _) => true | _ => false
theorem eS {P : Program} {t : TypeId} (h : agB P t = true) (w : World) : (isAgg t).run P w = .ok true w := by
 unfold agB at h
 cases hu : P.underlying t with
 | none => rw [hu] at h; cases h
 | some d =>
   rw [hu] at h
   unfold isAgg
   simp only [Sem.run_bind, run_underlying hu, Result.andThen_ok]
   cases d <;> first | rfl | cases h
theorem ba {a b : Nat} (h : Nat.blt a b = true) : a < b := Nat.le_of_ble_eq_true h
def Gives (P : Program) (n : Nat) (f : Fr) (w : World) (op : Op) (ty : TypeId) (v : Value) (w' : World) : Prop :=
 ∀ a, Kn n f a → ∀ (dst : Option Tmp) (pos : String) (aft : Array Edge) (g : Option (Nat × Bool)), (execOp a.eval ⟨dst, op, ty, pos, aft, g⟩).run P w = .ok (.value v) w'
def Does (P : Program) (n : Nat) (f : Fr) (w : World) (op : Op) (ty : TypeId) (R : Value → World → Prop) : Prop :=
 ∀ a, Kn n f a → ∀ (dst : Option Tmp) (pos : String) (aft : Array Edge) (g : Option (Nat × Bool)) (K : Act → World → Prop) (Q : Exit → Act → World → Prop),
   (∀ v w', R v w' → K (a.put dst v) w') → Oper.wp P ⟨dst, op, ty, pos, aft, g⟩ a w K Q
section
variable {P : Program} {n : Nat} {f : Fr} {w : World} {ty : TypeId}
theorem Does.mono {op : Op} {R R' : Value → World → Prop} (h : Does P n f w op ty R) (hr : ∀ v w', R v w' → R' v w') : Does P n f w op ty R' :=
 fun a ha dst pos aft g K Q hK => h a ha dst pos aft g K Q (fun v w' hv => hK v w' (hr v w' hv))
variable {fin : Exit → Act → World → Prop} {k : List KI} {ops : Array Oper} {l : List Oper}
theorem aU {op : Op} {d : Nat} {pos : String} {aft : Array Edge} {v : Value} {w' : World} (hr : Gives P n f w op ty v w') (hd : Nat.blt d n = true)
   (h : OW P fin n k ops l ((d, v) :: f) w') : OW P fin n k ops (⟨some d, op, ty, pos, aft, none⟩ :: l) f w :=
 ow_val v w' (fun a ha => hr a ha _ _ _ _) (ba hd) h
theorem a9 {op : Op} {d : Nat} {pos : String} {aft : Array Edge} {R : Value → World → Prop} (hr : Does P n f w op ty R) (hd : Nat.blt d n = true)
   (h : ∀ v w', R v w' → OW P fin n k ops l ((d, v) :: f) w') : OW P fin n k ops (⟨some d, op, ty, pos, aft, none⟩ :: l) f w := by
 intro a ha
 refine wpList_plain rfl fun K hK => ?_
 exact hr a ha _ _ _ _ _ _ (fun v w' hv => hK _ _ (h v w' hv _ (ha.put (ba hd) v)))
theorem a6 {op : Op} {pos : String} {aft : Array Edge} {R : Value → World → Prop} (hr : Does P n f w op ty R)
   (h : ∀ v w', R v w' → OW P fin n k ops l f w') : OW P fin n k ops (⟨none, op, ty, pos, aft, none⟩ :: l) f w := by
 intro a ha
 refine wpList_plain rfl fun K hK => ?_
 exact hr a ha _ _ _ _ _ _ (fun v w' hv => hK _ _ (h v w' hv _ ha))
theorem ax {x : Operand} {v : Value} (hx : f.ev x = some v) : Gives P n f w (.move x) ty v w := by
 intro a ha dst pos aft g
 simp [execOp, ha.ev hx]
theorem fK {x : Operand} {v : Value} (hx : f.ev x = some v) : Gives P n f w (.assign x) ty v w := by
 intro a ha dst pos aft g
 simp [execOp, ha.ev hx]
theorem bu {x : Operand} {a0 : Addr} (hx : f.ev x = some (.pointer (some a0))) : Gives P n f w (.nilCheck x) ty (.pointer (some a0)) w := by
 intro a ha dst pos aft g
 simp [execOp, ha.ev hx]
theorem br {op : BinOp} {t u : TypeId} {x y : Operand} {vx vy v : Value} (hx : f.ev x = some vx) (hy : f.ev y = some vy)
   (hg : ∀ x y, (eqGuard op t x y vx vy).run P w = .ok () w) (hr : (binOp op t vx vy).run P w = .ok v w) : Gives P n f w (.binOp op t x y u) ty v w := by
 intro a ha dst pos aft g
 simp [execOp, ha.ev hx, ha.ev hy, hg, hr]
theorem bb {op : BinOp} {t : TypeId} {k : IntKind} {i : Int} {v : Value} : ∀ x y, (eqGuard op t x y (.int k i) v).run P w = .ok () w := fun x y => by rw [eqGuard_at_int]; rfl
theorem cI {t u : TypeId} {x y : Operand} {i j : Int} (hx : f.ev x = some (.int .i64 i)) (hy : f.ev y = some (.int .i64 j)) (h : -9223372036854775808 ≤ i + j ∧ i + j ≤ 9223372036854775807) :
   Gives P n f w (.binOp .add t x y u) ty (.int .i64 (i + j)) w := br hx hy bb (by rw [binOp_add]; simp [Op.intArith, i64_in _ h])
theorem eG {t u : TypeId} {x y : Operand} {i j : Int} (hx : f.ev x = some (.int .i64 i)) (hy : f.ev y = some (.int .i64 j)) (h : -9223372036854775808 ≤ i - j ∧ i - j ≤ 9223372036854775807) :
   Gives P n f w (.binOp .sub t x y u) ty (.int .i64 (i - j)) w := br hx hy bb (by rw [binOp_sub]; simp [Op.intArith, i64_in _ h])
theorem gN {t u : TypeId} {x y : Operand} {i j : Int} (hx : f.ev x = some (.int .i64 i)) (hy : f.ev y = some (.int .i64 j)) (h : -9223372036854775808 ≤ i * j ∧ i * j ≤ 9223372036854775807) :
   Gives P n f w (.binOp .mul t x y u) ty (.int .i64 (i * j)) w := br hx hy bb (by rw [binOp_mul]; simp [Op.intArith, i64_in _ h])
theorem an {k : IntKind} {t u : TypeId} {x y : Operand} {i j : Int} (hx : f.ev x = some (.int k i)) (hy : f.ev y = some (.int k j)) :
   Gives P n f w (.binOp .add t x y u) ty (.int k (k.wrap (i + j))) w := br hx hy bb (by rw [binOp_add]; simp [Op.intArith])
theorem cw {k : IntKind} {t u : TypeId} {x y : Operand} {i j : Int} (hx : f.ev x = some (.int k i)) (hy : f.ev y = some (.int k j)) :
   Gives P n f w (.binOp .sub t x y u) ty (.int k (k.wrap (i - j))) w := br hx hy bb (by rw [binOp_sub]; simp [Op.intArith])
theorem dZ {k : IntKind} {t u : TypeId} {x y : Operand} {i j : Int} (hx : f.ev x = some (.int k i)) (hy : f.ev y = some (.int k j)) :
   Gives P n f w (.binOp .mul t x y u) ty (.int k (k.wrap (i * j))) w := br hx hy bb (by rw [binOp_mul]; simp [Op.intArith])
theorem eg {t u : TypeId} {x y : Operand} {i j : Int} (hx : f.ev x = some (.int .i64 i)) (hy : f.ev y = some (.int .i64 j)) (h : 0 ≤ i ∧ i ≤ 9223372036854775807 ∧ 1 ≤ j) :
   Gives P n f w (.binOp .quo t x y u) ty (.int .i64 (i / j)) w := br hx hy bb (by rw [binOp_quo]; simp [Op.intDiv, i64_quo _ _ h]; omega)
theorem e9 {k : IntKind} {t u : TypeId} {x y : Operand} {i j : Int} (hx : f.ev x = some (.int k i)) (hy : f.ev y = some (.int k j)) (h : 0 ≤ i ∧ 1 ≤ j) :
   Gives P n f w (.binOp .rem t x y u) ty (.int k (i % j)) w := br hx hy bb (by rw [binOp_rem]; simp [Op.intDiv, rem_in _ _ h.1]; omega)
theorem cY {k : IntKind} {t u : TypeId} {x y : Operand} {i j : Int} (hx : f.ev x = some (.int k i)) (hy : f.ev y = some (.int k j)) :
   Gives P n f w (.binOp .and t x y u) ty (.int k (bits .and k i j)) w := br hx hy bb (by rw [binOp_and, intBits_and]; rfl)
theorem du {k : IntKind} {t u : TypeId} {x y : Operand} {i j : Int} (hx : f.ev x = some (.int k i)) (hy : f.ev y = some (.int k j)) :
   Gives P n f w (.binOp .or t x y u) ty (.int k (bits .or k i j)) w := br hx hy bb (by rw [binOp_or, intBits_or]; rfl)
theorem oO {k : IntKind} {t u : TypeId} {x y : Operand} {i j : Int} (hx : f.ev x = some (.int k i)) (hy : f.ev y = some (.int k j)) :
   Gives P n f w (.binOp .xor t x y u) ty (.int k (bits .xor k i j)) w := br hx hy bb (by rw [binOp_xor, intBits_xor]; rfl)
theorem iD {k : IntKind} {t u : TypeId} {x y : Operand} {i j : Int} (hx : f.ev x = some (.int k i)) (hy : f.ev y = some (.int k j)) :
   Gives P n f w (.binOp .andNot t x y u) ty (.int k (bits .andNot k i j)) w := br hx hy bb (by rw [binOp_andNot, intBits_andNot]; rfl)
theorem ip {k k' : IntKind} {t u : TypeId} {x y : Operand} {i j : Int} (hx : f.ev x = some (.int k i)) (hy : f.ev y = some (.int k' j)) (h : 0 ≤ j ∧ j ≤ k.bits) :
   Gives P n f w (.binOp .shl t x y u) ty (.int k (k.wrap (i * 2 ^ j.toNat))) w := br hx hy bb (by rw [binOp_shl, shift_shl k k' i j h.1 h.2]; rfl)
theorem fa {k k' : IntKind} {t u : TypeId} {x y : Operand} {i j : Int} (hx : f.ev x = some (.int k i)) (hy : f.ev y = some (.int k' j)) (h : 0 ≤ j ∧ j ≤ k.bits) :
   Gives P n f w (.binOp .shr t x y u) ty (.int k (i / 2 ^ j.toNat)) w := br hx hy bb (by rw [binOp_shr, shift_shr k k' i j h.1 h.2]; rfl)
theorem gR {k : IntKind} {t u : TypeId} {x y : Operand} {i j : Int} (hx : f.ev x = some (.int k i)) (hy : f.ev y = some (.int k j)) :
   Gives P n f w (.binOp .eql t x y u) ty (.bool (decide (i = j))) w := br hx hy bb (by rw [binOp_eql]; rfl)
theorem dU {k : IntKind} {t u : TypeId} {x y : Operand} {i j : Int} (hx : f.ev x = some (.int k i)) (hy : f.ev y = some (.int k j)) :
   Gives P n f w (.binOp .neq t x y u) ty (.bool (decide (i ≠ j))) w := br hx hy bb (by rw [binOp_neq]; simp [bne]; by_cases h : i = j <;> simp [h])
theorem bW {k : IntKind} {t u : TypeId} {x y : Operand} {i j : Int} (hx : f.ev x = some (.int k i)) (hy : f.ev y = some (.int k j)) :
   Gives P n f w (.binOp .lss t x y u) ty (.bool (decide (i < j))) w := br hx hy bb (by rw [binOp_lss]; rfl)
theorem lA {k : IntKind} {t u : TypeId} {x y : Operand} {i j : Int} (hx : f.ev x = some (.int k i)) (hy : f.ev y = some (.int k j)) :
   Gives P n f w (.binOp .gtr t x y u) ty (.bool (decide (j < i))) w := br hx hy bb (by rw [binOp_gtr]; rfl)
theorem g_ge {k : IntKind} {t u : TypeId} {x y : Operand} {i j : Int} (hx : f.ev x = some (.int k i)) (hy : f.ev y = some (.int k j)) :
   Gives P n f w (.binOp .geq t x y u) ty (.bool (decide (j ≤ i))) w := br hx hy bb (by rw [binOp_geq]; rfl)
theorem gC {s t : TypeId} {x : Operand} {k k' : IntKind} {i : Int} (hs : (P.underlying s).isSome = true) (ht : P.underlying t = some (.int k')) (hx : f.ev x = some (.int k i)) :
   Gives P n f w (.convert s t x) ty (.int k' (k'.wrap i)) w := by
 intro a ha dst pos aft g
 have h1 : P.underlying t = some (.int (P.intKind t)) := by unfold Program.intKind; rw [ht]
 have h2 : P.intKind t = k' := by unfold Program.intKind; rw [ht]
 have := run_convert_int (P := P) w s t k i hs h1
 rw [h2] at this
 simp [execOp, ha.ev hx, this]
theorem iq {t : TypeId} {x : Operand} {b : Bool} (hx : f.ev x = some (.bool b)) : Gives P n f w (.unOp .not t x) ty (.bool (!b)) w := by
 intro a ha dst pos aft g
 simp [execOp, ha.ev hx, Op.unary]
theorem eh {t : TypeId} {x : Operand} {p : Prop} [Decidable p] (hx : f.ev x = some (.bool (decide p))) : Gives P n f w (.unOp .not t x) ty (.bool (decide (¬ p))) w := by
 have := iq (P := P) (n := n) (w := w) (ty := ty) (t := t) hx
 rwa [← decide_not] at this
theorem bp {x : Operand} {t e : TypeId} {s m : Nat} {v : Value} {cs : List Value} (ht : P.underlying t = some (.slice e)) (hx : f.ev x = some v) (hr : Rd w s v m cs) :
   Gives P n f w (.call { callee := .builtin .len, args := #[x], argTypes := #[t] }) ty (.int .i64 (m : Int)) w := by
 intro a ha dst pos aft g
 obtain ⟨A, c, rfl, _⟩ := hr
 simp [execOp, resolve, invoke, builtin, ha.ev hx, Builtin.len_, run_underlying ht, goInt]
theorem g_cap {x : Operand} {t e : TypeId} {s m : Nat} {v : Value} {cs : List Value} (ht : P.underlying t = some (.slice e)) (hx : f.ev x = some v) (hr : Rd w s v m cs) :
   Gives P n f w (.call { callee := .builtin .cap, args := #[x], argTypes := #[t] }) ty (.int .i64 (vcap v : Int)) w := by
 intro a ha dst pos aft g
 obtain ⟨A, c, rfl, _⟩ := hr
 simp [execOp, resolve, invoke, builtin, ha.ev hx, Builtin.cap_, run_underlying ht, goInt, vcap]
theorem g_nilS {x : Operand} {t e u : TypeId} {s m : Nat} {v : Value} {cs : List Value} (ht : P.underlying t = some (.slice e)) (hx : f.ev x = some v) (hr : Rd w s v m cs) :
   Gives P n f w (.binOp .eql t x (.const (.slice none 0 0)) u) ty (.bool (isNil v)) w := by
 obtain ⟨A, c, rfl, _⟩ := hr
 refine br hx rfl (fun x y => by rw [eqGuard_at_slice]; rfl) ?_
 rw [Lib.run_eql_slice_nil w t e A m c 0 0 ht]
 cases A <;> rfl
theorem dV {x y : Operand} {t e : TypeId} {zs : List Value} {s b m : Nat} {v : Value} {cs : List Value} {k : IntKind} {i : Int} (ht : P.underlying t = some (.slice e)) (he : Ty P e zs s b)
   (hx : f.ev x = some v) (hr : Rd w s v m cs) (hy : f.ev y = some (.int k i)) (h : 0 ≤ i ∧ i < m) :
   Gives P n f w (.indexAddr t x y) ty (.pointer (some (ea v (i.toNat * s)))) w := by
 intro a ha dst pos aft g
 obtain ⟨A, c, rfl, h1, h2, h3, h4, h5⟩ := hr
 cases A with
 | none => have := h4 rfl; omega
 | some a0 => simp [execOp, ha.ev hx, ha.ev hy, Instr.indexAt, asIntOf, run_underlying ht, he.sizeOf, h.1, h.2, ea]
theorem Rd.cell {w : World} {s m : Nat} {v : Value} {cs : List Value} (hr : Rd w s v m cs) {j : Nat} {u : Value} (hj : cs[j]? = some u) : w.cell? (ea v j) = some u := by
 obtain ⟨A, c, rfl, h1, h2, h3, h4, h5⟩ := hr
 cases A with
 | none =>
   have h6 := h4 rfl
   have : cs = [] := by apply List.eq_nil_of_length_eq_zero; rw [h3]; have : m = 0 := by omega
                        rw [this, Nat.zero_mul]
   subst this; cases hj
 | some a0 => exact h5 a0 rfl j u hj
theorem g_ld {x : Operand} {t : TypeId} {a0 : Addr} {u : Value} (ht : scB P t = true) (hx : f.ev x = some (.pointer (some a0))) (hc : w.cell? a0 = some u) :
   Gives P n f w (.load t x) ty u w := by
 intro a ha dst pos aft g
 simp [execOp, ha.ev hx, Instr.loadAt, Instr.sureAddr, loadVar, i7 ht, hc]
theorem aZ {x : Operand} {t : TypeId} {b o : Nat} {T : TypeId} {cs : List Value} {u : Value} (ht : scB P t = true) (hx : f.ev x = some (.pointer (some ⟨b, o, none⟩))) (hb : Bk w b T cs) (hc : cs[o]? = some u) :
   Gives P n f w (.load t x) ty u w := g_ld ht hx (by rw [hb.cell]; exact hc)
theorem oR {x : Operand} {t : TypeId} {s m j : Nat} {v : Value} {cs : List Value} {u : Value} (ht : scB P t = true) (hx : f.ev x = some (.pointer (some (ea v j)))) (hr : Rd w s v m cs) (hc : cs[j]? = some u) :
   Gives P n f w (.load t x) ty u w := g_ld ht hx (hr.cell hc)
theorem d7 {x : Operand} {t : TypeId} {v : Value} {xs : List UInt8} {i : Int} (ht : scB P t = true) (hx : f.ev x = some (.pointer (some (ea v (i.toNat * 1))))) (hr : RdB w v xs) (h : 0 ≤ i ∧ i < xs.length) :
   Gives P n f w (.load t x) ty (.int .u8 (gb xs i)) w := oR ht hx hr (by rw [Nat.mul_one]; exact bv_get xs h.2 h.1)
theorem oT {x : Operand} {t : TypeId} {zs : List Value} {s b : Nat} {a0 : Addr} {cs : List Value} (ht : agB P t = true) (hs : Ty P t zs s b) (hx : f.ev x = some (.pointer (some a0))) (hr : Row w a0 cs) (hl : cs.length = s) :
   Gives P n f w (.load t x) ty (.agg cs.toArray) w := by
 intro a ha dst pos aft g
 subst hl
 simp [execOp, ha.ev hx, Instr.loadAt, Instr.sureAddr, loadVar, eS ht, hs.sizeOf, run_loadCells_list w a0 cs hr]
theorem aX {x : Operand} {t : TypeId} {zs : List Value} {s b : Nat} {g o : Nat} {T : TypeId} {cs cs' : List Value} (ht : agB P t = true) (hs : Ty P t zs s b) (hx : f.ev x = some (.pointer (some ⟨g, o, none⟩)))
   (hb : Bk w g T cs) (hc : (cs.drop o).take s = cs') (hl : cs'.length = s) :
   Gives P n f w (.load t x) ty (.agg cs'.toArray) w := by
 refine oT ht hs hx ?_ hl
 subst hc
 have := (hb.row.drop o).take s
 rwa [Addr.add_lit, Nat.zero_add] at this
theorem cT {x : Operand} {T : TypeId} {fs : Array Field} {i : Nat} {fd : Field} {b o : Nat} {zs : List Value} {s by_ : Nat} (hT : P.underlying T = some (.struct fs)) (hf : fs[i]? = some fd) (hs : Ty P fd.type zs s by_) (h0 : s ≠ 0)
   (hx : f.ev x = some (.pointer (some ⟨b, o, none⟩))) : Gives P n f w (.fieldAddr T x i) ty (.pointer (some ⟨b, o + fd.offset, none⟩)) w := by
 intro a ha dst pos aft g
 simp [execOp, ha.ev hx, Instr.fieldAt, run_underlying hT, hf, Instr.sureAddr, fieldPlace, hs.sizeOf, h0, Addr.add_lit]
theorem ar {x : Operand} {i : Nat} {vs : List Value} {v : Value} (hx : f.ev x = some (.tuple vs.toArray)) (hv : vs[i]? = some v) : Gives P n f w (.extract x i) ty v w := by
 intro a ha dst pos aft g
 simp [execOp, ha.ev hx, Instr.extract, hv]
theorem i0 {x : Operand} {t e : TypeId} {lo hi : Option Operand} {zs : List Value} {s b m : Nat} {v : Value} {cs : List Value} {l h : Int} (ht : P.underlying t = some (.slice e)) (he : Ty P e zs s b)
   (hx : f.ev x = some v) (hr : Rd w s v m cs)
   (hlo : (lo = none ∧ l = 0) ∨ ∃ o k, lo = some o ∧ f.ev o = some (.int k l)) (hhi : (hi = none ∧ h = m) ∨ ∃ o k, hi = some o ∧ f.ev o = some (.int k h)) (hb : 0 ≤ l ∧ l ≤ h ∧ h ≤ vcap v) :
   Gives P n f w (.slice t x lo hi none) ty (cut v l.toNat h.toNat s) w := by
 intro a ha dst pos aft g
 obtain ⟨A, c, rfl, h1, h2, h3, h4, h5⟩ := hr
 have ht' : P.underlying t = some (.slice (P.elem t)) := by unfold Program.elem; rw [ht]
 have hel : P.elem t = e := by unfold Program.elem; rw [ht]
 simp only [vcap] at hb
 have hbb : (Instr.sliceBounds true m c (lo.map a.eval) (hi.map a.eval) none).run P w = .ok (l.toNat, h.toNat, c) w := by
   have e2 : (h.toNat : Int) = h := Int.toNat_of_nonneg (by omega)
   rcases hlo with ⟨rfl, rfl⟩ | ⟨o, kk, rfl, ho⟩ <;> rcases hhi with ⟨rfl, rfl⟩ | ⟨o', kk', rfl, ho'⟩
   · simp [Instr.sliceBounds]
   · simp [Instr.sliceBounds, ha.ev ho', run_sliceBound w kk' h c _ (by omega) (by omega)]
   · simp [Instr.sliceBounds, ha.ev ho, run_sliceBound w kk l m _ (by omega) (by omega)]
   · simp [Instr.sliceBounds, ha.ev ho, ha.ev ho', run_sliceBound w kk' h c _ (by omega) (by omega), run_sliceBound w kk l h.toNat _ (by omega) (by omega)]
 simp only [execOp, ha.ev hx, Sem.run_bind, Option.map_none, run_sliceAt_slice w t _ _ _ _ ht', run_slice_any w t A m c ht', hbb, Result.andThen_ok, hel, he.sizeOf, sliced, Sem.run_pure, Eng.cut]
theorem Rd.vcap {w : World} {s m : Nat} {v : Value} {cs : List Value} (hr : Rd w s v m cs) : m ≤ Eng.vcap v ∧ Eng.vcap v ≤ 9223372036854775807 := by
 obtain ⟨A, c, rfl, h1, h2, _⟩ := hr
 unfold maxLen at h2
 simp only [Eng.vcap]; omega
def strOf (xs : List UInt8) : ByteArray := ⟨xs.toArray⟩
theorem mQ {xs ys : List UInt8} (h : strOf xs = strOf ys) : xs = ys := by
 simp only [strOf, ByteArray.mk.injEq] at h
 simpa using congrArg Array.toList h
theorem g_str {x : Operand} {t u e : TypeId} {v : Value} {xs : List UInt8} (ht : P.underlying t = some (.slice e)) (he : P.underlying e = some (.int .u8)) (hu : P.underlying u = some .string)
   (hx : f.ev x = some v) (hr : RdB w v xs) : Gives P n f w (.convert t u x) ty (.string (strOf xs)) w := by
 intro a ha dst pos aft g
 obtain ⟨A, c, rfl, h1, h2, h3, h4, h5⟩ := hr
 simp only [execOp, ha.ev hx, Sem.run_bind]
 cases A with
 | none =>
   have h6 := h4 rfl
   have h7 : xs = [] := List.eq_nil_of_length_eq_zero (by omega)
   rw [run_convert_bytes_nil w t e ht he _ _ u hu]
   subst h7
   rfl
 | some a0 =>
   have hrow := h5 a0 rfl
   rw [run_convert_bytes_string w t u e _ _ _ ht he hu]
   have hl := run_loadCells_list (P := P) w a0 (bv xs) hrow
   have hns : bv xs = (xs.map fun b => (b.toNat : Int)).map (Value.int .u8) := by simp [bv, Function.comp_def]
   rw [bM] at hl
   have hb := run_bytesToString (P := P) w a0 xs.length c (xs.map fun b => (b.toNat : Int)) (by rw [hl, hns])
   rw [hb, Result.andThen_ok, Sem.run_pure, foldl_push_bytes]
   have he2 : ByteArray.empty.data = #[] := rfl
   simp only [Int.toNat_natCast, List.map_map, Function.comp_def, UInt8.ofNat_toNat, List.map_id', he2, Array.empty_append]
   rfl
theorem mR (a b : List UInt8) : ((strOf a).toList == (strOf b).toList) = decide (a = b) := by
 rw [← beq_toListBytes]
 by_cases h : a = b
 · subst h
   rw [beq_toListBytes]; simp
 · have h2 : strOf a ≠ strOf b := fun e => h (mQ e)
   rw [decide_eq_false h]
   rw [beq_toListBytes]
   simp only [beq_eq_false_iff_ne, ne_eq]
   intro e
   rw [ByteArray.toList_eq, ByteArray.toList_eq] at e
   exact h (by simpa [strOf] using e)
theorem mo {op : BinOp} {t : TypeId} {s : ByteArray} {v : Value} : ∀ x y, (eqGuard op t x y (.string s) v).run P w = .ok () w := fun x y => by rw [eqGuard_at_string]; rfl
theorem g_eqs {t u : TypeId} {x y : Operand} {a b : List UInt8} (hx : f.ev x = some (.string (strOf a))) (hy : f.ev y = some (.string (strOf b))) :
   Gives P n f w (.binOp .eql t x y u) ty (.bool (decide (a = b))) w := br hx hy mo (by
 simp only [binOp, Op.stringOp, mR]; rfl)
end
end Go.Eng
namespace Go.Eng
open Go
theorem nm {b c : Nat} (h : b ≠ c) : ¬ b ∈ [c] := fun hm => absurd (List.mem_singleton.1 hm) h
theorem nw {n b : Nat} {S : List Nat} (h : n ≤ b) : ∀ x, x ∈ [b] → n ≤ x ∨ x ∈ S := fun x hx => .inl ((List.mem_singleton.1 hx) ▸ h)
section
variable {P : Program} {n : Nat} {f : Fr} {w : World} {ty : TypeId} {fin : Exit → Act → World → Prop} {k : List KI} {ops : Array Oper} {l : List Oper}
theorem ogm {x : Operand} {d : Nat} {pos : String} {aft : Array Edge} {v : Value} (hx : f.ev x = some v) (hd : Nat.blt d n = true) (h : OW P fin n k ops l ((d, v) :: f) w) : OW P fin n k ops (⟨some d, .move x, ty, pos, aft, none⟩ :: l) f w := aU (ax hx) hd h
theorem oga {x : Operand} {d : Nat} {pos : String} {aft : Array Edge} {v : Value} (hx : f.ev x = some v) (hd : Nat.blt d n = true) (h : OW P fin n k ops l ((d, v) :: f) w) : OW P fin n k ops (⟨some d, .assign x, ty, pos, aft, none⟩ :: l) f w := aU (fK hx) hd h
end
theorem nox {p : Nat → Prop} : ∀ x, x ∈ ([] : List Nat) → p x := fun x hx => by cases hx
end Go.Eng
namespace Go.Eng
open Go Go.IntWalk
section
variable {P : Program} {n : Nat} {f : Fr} {w : World} {ty : TypeId}
theorem bc {T : TypeId} {x : Operand} {v : Value} {cs : List Value} (hx : f.ev x = some v) (hc : v.cells = cs.toArray) :
   Does P n f w (.box T x) ty (fun v' w' => ∃ b, v' = .pointer (some ⟨b, 0, none⟩) ∧ b = w.heap.size ∧ Bk w' b T cs ∧ Keep [] w w' ∧ w'.heap.size = w.heap.size + 1) := by
 intro a ha dst pos aft g K Q hK
 have hr : (execOp a.eval ⟨dst, .box T x, ty, pos, aft, g⟩).run P w = .ok (.value (.pointer (some ⟨w.heap.size, 0, none⟩))) (w.alloc (.cells cs.toArray T)) := by
   simp [execOp, ha.ev hx, Instr.box, newVar, newRow, hc]
 unfold Oper.wp
 rw [hr]
 exact hK _ _ ⟨_, rfl, rfl, fo _ _ _, ce _ _, by simp⟩
theorem ab {T : TypeId} {zs : List Value} {s b : Nat} (hT : Ty P T zs s b) :
   Does P n f w (.alloc T) ty (fun v' w' => ∃ b, v' = .pointer (some ⟨b, 0, none⟩) ∧ b = w.heap.size ∧ Bk w' b T zs ∧ Keep [] w w' ∧ w'.heap.size = w.heap.size + 1) := by
 intro a ha dst pos aft g K Q hK
 obtain ⟨z, hz, hrz⟩ := hT.zeroValue w
 have hr : (execOp a.eval ⟨dst, .alloc T, ty, pos, aft, g⟩).run P w = .ok (.value (.pointer (some ⟨w.heap.size, 0, none⟩))) (w.alloc (.cells zs.toArray T)) := by
   subst hz
   simp [execOp, Instr.alloc, hrz, newVar, newRow]
 unfold Oper.wp
 rw [hr]
 exact hK _ _ ⟨_, rfl, rfl, fo _ _ _, ce _ _, by simp⟩
theorem cD {t : TypeId} {x y : Operand} {b o : Nat} {T : TypeId} {cs zs : List Value} {v : Value} {by_ : Nat} (ht : Ty P t zs 1 by_) (hx : f.ev x = some (.pointer (some ⟨b, o, none⟩))) (hy : f.ev y = some v)
   (hv : v.oneCell' = true) (hb : Bk w b T cs) (ho0 : Nat.blt o cs.length = true) :
   Does P n f w (.store t x y) ty (fun _ w' => Bk w' b T (cs.set o v) ∧ Keep [b] w w' ∧ w'.heap.size = w.heap.size) := by
 intro a ha dst pos aft g K Q hK
 have ho : o < cs.length := ba ho0
 have hvc : v.cells = #[v] := by cases v <;> first | rfl | cases hv
 have hr : (execOp a.eval ⟨dst, .store t x y, ty, pos, aft, g⟩).run P w = .ok .skip (w.setCell ⟨b, o, none⟩ v) := by
   have h1 : w.cell? ⟨b, o, none⟩ = some cs[o] := by rw [hb.cell, List.getElem?_eq_getElem ho]
   simp [execOp, ha.ev hx, ha.ev hy, Instr.storeAt, Instr.sureAddr, storeVar, ht.sizeOf, hvc, storeCells, run_store P w _ v _ hv, h1, hb.frozen, Addr.add_zero']
 unfold Oper.wp
 rw [hr]
 exact hK undef _ ⟨hb.set o v, jQ w ⟨b, o, none⟩ v, by simp⟩
theorem dR (w : World) (g : Nat) (cs : Array Value) : Keep [g] w (w.setRow g cs) :=
 ⟨rfl, rfl, rfl, by simp [World.setRow], fun k _ hn => setRow_other w g k cs (fun e => hn (by simp [e]))⟩
theorem eB (w : World) (g : Nat) (cs : Array Value) : (w.setRow g cs).heap.size = w.heap.size := by simp [World.setRow]
theorem ak {t : TypeId} {x y : Operand} {b o : Nat} {T : TypeId} {cs zs vs : List Value} {s by_ : Nat} (ht : Ty P t zs s by_) (hx : f.ev x = some (.pointer (some ⟨b, o, none⟩))) (hy : f.ev y = some (.agg vs.toArray))
   (hl : vs.length = s) (hv : ∀ v ∈ vs, v.oneCell' = true) (hb : Bk w b T cs) (ho0 : Nat.ble (o + s) cs.length = true) :
   Does P n f w (.store t x y) ty (fun _ w' => Bk w' b T (cs.take o ++ vs ++ cs.drop (o + s)) ∧ Keep [b] w w' ∧ w'.heap.size = w.heap.size) := by
 intro a ha dst pos aft g K Q hK
 subst hl
 have ho : o + vs.length ≤ cs.length := Nat.le_of_ble_eq_true ho0
 have hst := run_storeCells_at P b o T vs 0 cs.toArray w hb (by simpa using ho) hv
 have hr : (execOp a.eval ⟨dst, .store t x y, ty, pos, aft, g⟩).run P w = .ok .skip (w.setRow b (cs.take o ++ vs ++ cs.drop (o + vs.length)).toArray) := by
   simp only [Nat.add_zero] at hst
   simp [execOp, ha.ev hx, ha.ev hy, Instr.storeAt, Instr.sureAddr, storeVar, ht.sizeOf, Value.cells, hst]
 unfold Oper.wp
 rw [hr]
 exact hK undef _ ⟨setRow_heap w b _ _ T _ hb, dR _ _ _, eB _ _ _⟩
theorem dv {t : TypeId} {x y : Operand} {b : Nat} {T : TypeId} {cs zs vs : List Value} {s by_ : Nat} (ht : Ty P t zs s by_) (hx : f.ev x = some (.pointer (some ⟨b, 0, none⟩))) (hy : f.ev y = some (.agg vs.toArray))
   (hl : vs.length = s) (hv : ∀ v ∈ vs, v.oneCell' = true) (hb : Bk w b T cs) (ho : cs.length = s) :
   Does P n f w (.store t x y) ty (fun _ w' => Bk w' b T vs ∧ Keep [b] w w' ∧ w'.heap.size = w.heap.size) :=
 (ak ht hx hy hl hv hb (Nat.ble_eq_true_of_le (by omega))).mono fun _ w' ⟨h1, h2, h3⟩ => ⟨by rwa [List.take_zero, List.nil_append, Nat.zero_add, List.drop_of_length_le (by omega), List.append_nil] at h1, h2, h3⟩
theorem Own.raw {lo : Nat} {e : TypeId} {s m : Nat} {v : Value} {cs : List Value} (h : Own w lo e s v m cs) (h0 : cs ≠ []) : ∃ g cap cur, v = .slice (some ⟨g, 0, none⟩) m cap ∧ lo ≤ g ∧ Bk w g e cur ∧ m ≤ cap ∧ cap ≤ maxLen ∧ cur.length = cap * s ∧ cur.take (m * s) = cs := by
 obtain ⟨hl, ⟨rfl, rfl⟩ | ⟨g, cap, cur, rfl, h1, h2, h3, h4, h5, h6⟩⟩ := h
 · rw [Nat.zero_mul] at hl; exact absurd (List.eq_nil_of_length_eq_zero hl) h0
 · exact ⟨g, cap, cur.toList, rfl, h1, by simpa [Bk] using h2, h3, h4, by simpa using h5, h6⟩
theorem iO {t e : TypeId} {x y : Operand} {lo s m j : Nat} {v u : Value} {cs zs : List Value} {by_ : Nat} (ht : Ty P t zs 1 by_) (hx : f.ev x = some (.pointer (some (ea v j)))) (hy : f.ev y = some u)
   (hu : u.oneCell' = true) (ho : Own w lo e s v m cs) (hj : j < cs.length) :
   Does P n f w (.store t x y) ty (fun _ w' => Own w' lo e s v m (cs.set j u) ∧ Keep (vblk v) w w' ∧ w'.heap.size = w.heap.size) := by
 obtain ⟨g, cap, cur, rfl, h1, h2, h3, h4, h5, h6⟩ := ho.raw (by intro h; subst h; simp at hj)
 have hj' : j < cur.length := by have := congrArg List.length h6; simp at this; omega
 have hea : ea (.slice (some ⟨g, 0, none⟩) m cap) j = ⟨g, j, none⟩ := by simp [ea, Addr.add_lit]
 rw [hea] at hx
 refine (cD ht hx hy hu h2 (Nat.ble_eq_true_of_le hj')).mono fun _ w' ⟨k1, k2, k3⟩ => ⟨?_, k2, k3⟩
 refine ⟨by rw [List.length_set]; exact ho.1, .inr ⟨g, cap, (cur.set j u).toArray, rfl, h1, k1, h3, h4, by simpa using h5, ?_⟩⟩
 rw [← h6, List.take_set]
theorem eK {m : Nat} (h : (m : Int) ≤ 9223372036854775807) : m ≤ maxLen := by
 have h9 : (9223372036854775807 : Nat) = maxLen := by decide
 omega
theorem mu {t e : TypeId} {x y : Operand} {z : Value} {by_ : Nat} {i : Int} (ht : P.underlying t = some (.slice e)) (he : Ty P e [z] 1 by_) (hx : f.ev x = some (.int .i64 i)) (hy : f.ev y = some (.int .i64 i))
   (h0 : 0 ≤ i) (hb : i * by_ ≤ 281474976710656 ∧ i ≤ 9223372036854775807) :
   Does P n f w (.makeSlice t x y) ty (fun v' w' => Own w' w.heap.size e 1 v' i.toNat (List.replicate i.toNat z) ∧ isNil v' = false ∧ vblk v' = [w.heap.size] ∧ Keep [] w w' ∧ w'.heap.size = w.heap.size + 1) := by
 intro a ha dst pos aft g K Q hK
 obtain ⟨m, rfl⟩ := Int.eq_ofNat_of_zero_le h0
 obtain ⟨ti, z', hi, hz, hzc, hs, hby⟩ := he.parts
 have hb1 := hb.1
 have hb' : by_ * m ≤ 281474976710656 := by rw [← Int.natCast_mul] at hb1; rw [Nat.mul_comm]; omega
 have hz2 : z'.cells = #[z] := by rw [← Array.toList_inj]; simpa using hzc
 have hm : (m : Int) ≤ 9223372036854775807 := hb.2
 have hr := run_make (P := P) w t e ti z' ht hi hz .i64 .i64 (m : Int) (m : Int) (by omega) (Int.le_refl _) (by rw [hby, ← Int.natCast_mul]; omega) hm
 unfold Oper.wp
 have hrun : (execOp a.eval ⟨dst, .makeSlice t x y, ty, pos, aft, g⟩).run P w = .ok (.value (.slice (some ⟨w.heap.size, 0, none⟩) m m)) (w.alloc (.cells (List.replicate m z).toArray e)) := by
   have hmc : madeCells #[z] m = (List.replicate m z).toArray := by rw [← Array.toList_inj, toList_madeCells_one]
   simp only [execOp, ha.ev hx, ha.ev hy, Sem.run_bind, hr, Result.andThen_ok, Sem.run_pure, Int.toNat_natCast, hz2, hs, Nat.mul_one, hmc]
 rw [hrun]
 exact hK _ _ ⟨ig (fo _ _ _) (Nat.le_refl _) (by rw [List.length_replicate, Nat.mul_one]; rfl) (eK hm), rfl, rfl, ce _ _, by simp⟩
theorem pC (m : Nat) : List.replicate m (Value.int .u8 0) = bv (List.replicate m 0) := by simp [bv]
def enum : Nat → List Operand → List (Nat × Operand)
 | _, [] => []
 | i, x :: r => (i, x) :: enum (i + 1) r
def enumV : Nat → List Value → List (Nat × Value)
 | _, [] => []
 | i, x :: r => (i, x) :: enumV (i + 1) r
theorem kS {a : Act} (ha : Kn n f a) : ∀ {xs : List Operand} {vs : List Value} (i : Nat), f.evs xs = some vs → (enum i xs).map (fun p => (p.1, a.eval p.2)) = enumV i vs
  | [], vs, i, h => by simp only [Fr.evs, Option.some.injEq] at h; subst h; rfl
  | x :: r, vs, i, h => by
    unfold Fr.evs at h
    split at h
    · rename_i v hv
      split at h
      · rename_i us hu
        simp only [Option.some.injEq] at h
        subst h
        simp only [enum, enumV, List.map_cons, ha.ev hv, kS ha (i + 1) hu]
      · cases h
    · cases h
theorem iI (o : Nat) : ∀ (vs : List Value) (j : Nat) (cur : List Value), o + j + vs.length ≤ cur.length →
   (vs.zipIdx j).foldl (fun (cs : Array Value) (c : Value × Nat) => cs.setIfInBounds (o + c.2) c.1) cur.toArray = (cur.take (o + j) ++ vs ++ cur.drop (o + j + vs.length)).toArray
 | [], j, cur, h => by simp
 | v :: r, j, cur, h => by
   simp only [List.zipIdx_cons, List.foldl_cons, List.setIfInBounds_toArray]
   rw [iI o r (j + 1) (cur.set (o + j) v) (by simp at h ⊢; omega)]
   congr 1
   simp only [List.length_cons] at h
   have hlt : o + j < cur.length := by omega
   have e1 : o + (j + 1) = (o + j) + 1 := by omega
   rw [e1, List.take_succ_eq_append_getElem (by simpa using hlt), List.drop_set_of_lt (by omega), List.take_set]
   have e2 : (cur.take (o + j)).set (o + j) v = cur.take (o + j) := by
     apply List.set_eq_of_length_le; simp; omega
   rw [e2]
   simp [Nat.add_assoc, Nat.add_comm 1]
theorem iL (s : Nat) : ∀ (vs : List Value) (i : Nat) (cur : List Value), (∀ v ∈ vs, v.cells.size = s) → (i + vs.length) * s ≤ cur.length → 
   Instr.fill (fun i => some (i * s, s)) cur.toArray (enumV i vs) = some (cur.take (i * s) ++ vs.flatMap (fun v => v.cells.toList) ++ cur.drop ((i + vs.length) * s)).toArray
 | [], i, cur, _, h => by simp [enumV, Instr.fill]
 | v :: r, i, cur, hv, h => by
   have hs := hv v (by simp)
   simp only [List.length_cons] at h
   have h2 : i * s + s ≤ cur.length := by
     have : (i + 1) * s ≤ (i + (r.length + 1)) * s := Nat.mul_le_mul_right _ (by omega)
     rw [Nat.add_mul, Nat.one_mul] at this; omega
   simp only [enumV, Instr.fill, hs]
   rw [if_neg (by simp; omega)]
   have hz := iI (i * s) v.cells.toList 0 cur (by simp [hs]; omega)
   have hz' : (v.cells.zipIdx.foldl (fun (cs : Array Value) (c : Value × Nat) => cs.setIfInBounds (i * s + c.2) c.1) cur.toArray) = (cur.take (i * s) ++ v.cells.toList ++ cur.drop (i * s + s)).toArray := by
     rw [← Array.foldl_toList, Array.toList_zipIdx]
     simpa [hs] using hz
   rw [hz']
   have hl : (cur.take (i * s) ++ v.cells.toList ++ cur.drop (i * s + s)).length = cur.length := by simp [hs]; omega
   have := iL s r (i + 1) (cur.take (i * s) ++ v.cells.toList ++ cur.drop (i * s + s)) (fun u hu => hv u (by simp [hu])) (by rw [hl]; rw [show i + 1 + r.length = i + (r.length + 1) from by omega]; exact h)
   rw [this]
   congr 2
   have e1 : (i + 1) * s = (cur.take (i * s) ++ v.cells.toList).length := by simp [hs, Nat.add_mul]; omega
   have e2 : (cur.take (i * s) ++ v.cells.toList ++ cur.drop (i * s + s)).take ((i + 1) * s) = cur.take (i * s) ++ v.cells.toList := by rw [e1, List.take_left']; rfl
   have e3 : (i + 1 + r.length) * s = (cur.take (i * s) ++ v.cells.toList).length + r.length * s := by rw [← e1, Nat.add_mul]
   have e4 : (cur.take (i * s) ++ v.cells.toList ++ cur.drop (i * s + s)).drop ((i + 1 + r.length) * s) = cur.drop ((i + (r.length + 1)) * s) := by
     rw [e3, List.drop_append]
     simp only [Nat.add_sub_cancel_left, List.drop_drop]
     rw [List.drop_of_length_le (by omega), List.nil_append]
     congr 1
     simp only [Nat.add_mul, Nat.one_mul]; omega
   rw [e2, e4]
   simp
theorem gO (s : Nat) : ∀ (vs : List Value), (∀ v ∈ vs, v.cells.size = s) → (vs.flatMap fun v => v.cells.toList).length = vs.length * s
  | [], _ => by simp
  | v :: r, h => by
    have h1 := h v (by simp)
    have h2 := gO s r (fun u hu => h u (by simp [hu]))
    rw [List.flatMap_cons, List.length_append, h2, Array.length_toList, h1, List.length_cons, Nat.add_mul, Nat.one_mul]; omega
theorem gS {t e : TypeId} {m s by_ : Nat} {parts : Array (Nat × Operand)} {xs : List Operand} {vs zs : List Value} (ht : P.underlying t = some (.slice e)) (he : Ty P e zs s by_) (hs0 : 0 < s)
   (hp : parts.toList = enum 0 xs) (hx : f.evs xs = some vs) (hm : vs.length = m) (hv : ∀ v ∈ vs, v.cells.size = s) (hlim : m * s ≤ 16777216) :
   Does P n f w (.buildSlice t m parts) ty (fun v' w' => Own w' w.heap.size e s v' m (vs.flatMap fun v => v.cells.toList) ∧ isNil v' = false ∧ vblk v' = [w.heap.size] ∧ Keep [] w w' ∧ w'.heap.size = w.heap.size + 1) := by
 intro a ha dst pos aft g K Q hK
 have hmaxl : m ≤ maxLen := by
   have h9 : (9223372036854775807 : Nat) = maxLen := by decide
   have := Nat.le_mul_of_pos_right m hs0
   omega
 obtain ⟨ti, z, hi, hz, hzc, hs, hby⟩ := he.parts
 have hpv : (parts.map fun p => (p.1, a.eval p.2)) = (enumV 0 vs).toArray := by
   rw [← Array.toList_inj]; simp [hp, kS ha 0 hx]
 have hfl : (vs.flatMap fun v => v.cells.toList).length = m * s := by
   rw [← hm]; exact gO s vs hv
 have hr : (execOp a.eval ⟨dst, .buildSlice t m parts, ty, pos, aft, g⟩).run P w = .ok (.value (.slice (some ⟨w.heap.size, 0, none⟩) m m)) (w.alloc (.cells (vs.flatMap fun v => v.cells.toList).toArray e)) := by
   have hlim' : ¬ (2 ^ 24 < m * s) := by omega
   by_cases h0 : m * s = 0
   · have hfl0 : (vs.flatMap fun v => v.cells.toList) = [] := List.eq_nil_of_length_eq_zero (by omega)
     have hfill := iL s vs 0 [] hv (by rw [Nat.zero_add, hm]; omega)
     have hz9 : (Array.map (fun _ => (default : Value)) (Array.range 0)) = #[] := by simp
     simp only [execOp, hpv, Instr.buildSlice, Sem.run_bind, run_underlying ht, Result.andThen_ok, he.sizeOf, gt_iff_lt, h0, if_true, Sem.run_pure]
     simp
     rw [hz9, hfill]
     simp [hfl0, newRow]
   · obtain ⟨z2, hz2, hrz⟩ := he.zeroValue w
     have hfill := iL s vs 0 ((Array.range (m * s)).map (fun j => z2.cells[j % z2.cells.size]!)).toList hv (by rw [Nat.zero_add, hm]; simp)
     simp only [Array.toArray_toList] at hfill
     simp only [execOp, hpv, Instr.buildSlice, Sem.run_bind, run_underlying ht, Result.andThen_ok, he.sizeOf, gt_iff_lt, if_neg hlim', if_neg h0, hrz, Sem.run_pure]
     have hd : (List.drop (m * s) (List.map (fun x => z2.cells[x % z2.cells.size]!) (List.range (m * s)))) = [] := List.drop_of_length_le (by simp)
     simp [hfill, hm, newRow, hd]
 unfold Oper.wp
 rw [hr]
 exact hK _ _ ⟨ig (fo _ _ _) (Nat.le_refl _) hfl hmaxl, rfl, rfl, ce _ _, by simp⟩
end
end Go.Eng
namespace Go.Eng
open Go Go.IntWalk
section
variable {P : Program} {n : Nat} {f : Fr} {w : World} {ty : TypeId}
theorem eN (w : World) (T : TypeId) (cs : Array Value) : (w.alloc (.cells cs T)).heap[w.heap.size]? = some (.cells cs T (0, 0)) := by
 show (w.heap.push _)[w.heap.size]? = _
 simp
theorem fX {need old by_ : Nat} (h : old < need) (hb : need * by_ ≤ 140737488355328) : Builtin.nextslicecap need old * by_ ≤ 281474976710656 := growslice_fits h hb
theorem eZ (t ty e : TypeId) (i : TypeInfo) (ht : P.underlying t = some (.slice e)) (hi : P.info? e = some i) (base : Option Addr) (l c : Nat) (hlc : l ≤ c) (u : Option Addr) (c' : Nat) :
   (Builtin.append_ #[t, t] ty #[.slice base l c, .slice u 0 c']).run P w = .ok (.slice base l c) w := by
 cases u <;> cases base <;> simp [Builtin.append_, run_underlying ht, sizeOf, typeInfo, hi, Builtin.lenOf, Builtin.firstCells, hlc, loadCells, loadCellsFrom, storeCells]
theorem run_app {t ty e : TypeId} {lo s m m' by_ : Nat} {v u : Value} {cs ys zs : List Value} (ht : P.underlying t = some (.slice e)) (he : Ty P e zs s by_) (hs0 : 0 < s) (hzs : zs.length = s)
   (ho : Own w lo e s v m cs) (hr : Rd w s u m' ys) (h1 : ∀ c ∈ ys, c.oneCell' = true) (hb : (m + m') * by_ ≤ 140737488355328 ∧ m + m' ≤ 9223372036854775807) (hl : lo ≤ w.heap.size) :
   ∃ v' w', (Builtin.append_ #[t, t] ty #[v, u]).run P w = .ok v' w' ∧ Own w' lo e s v' (m + m') (cs ++ ys) ∧ Keep (vblk v) w w' ∧ (∀ x, x ∈ vblk v' → x ∈ vblk v ∨ w.heap.size ≤ x) ∧ (∃ A c, v' = .slice A (m + m') c) ∧ isNil v' = (isNil v && decide (m' = 0)) := by
 obtain ⟨ti, z, hi, hz, hzc, hsz, hby⟩ := he.parts
 subst hsz hby
 have h63 : (((m + m' : Nat)) : Int) ≤ 9223372036854775807 := by have := hb.2; omega
 have hml : m + m' ≤ maxLen := eK h63
 have hcs : (cs ++ ys).length = (m + m') * ti.size := by rw [List.length_append, ho.1, hr.len, Nat.add_mul]
 have hzl : z.cells.size = ti.size := by rw [← Array.length_toList, hzc, hzs]
 obtain ⟨A', c', rfl, h2, h3, h4, h5, h6⟩ := hr
 by_cases hm0 : m' = 0
 · subst hm0
   have hys : ys = [] := List.eq_nil_of_length_eq_zero (by rw [h4, Nat.zero_mul])
   subst hys
   have ho' := ho
   obtain ⟨hl1, ⟨rfl, rfl⟩ | ⟨g, cap, cur, rfl, q1, q2, q3, q4, q5, q6⟩⟩ := ho
   · exact ⟨_, w, eZ t ty e ti ht hi none 0 0 (Nat.le_refl _) A' c', by simpa using ho', Keep.refl _ _, (fun x hx => by cases hx), ⟨none, 0, rfl⟩, rfl⟩
   · exact ⟨_, w, eZ t ty e ti ht hi _ m cap q3 A' c', by simpa using ho', Keep.refl _ _, fun x hx => .inl hx, ⟨_, cap, rfl⟩, rfl⟩
 · cases A' with
   | none => have := h5 rfl; omega
   | some a' =>
     have hrow := h6 a' rfl
     have hdec : decide (m' = 0) = false := by simp [hm0]
     obtain ⟨hl1, ⟨rfl, rfl⟩ | ⟨g, cap, cur, rfl, q1, q2, q3, q4, q5, q6⟩⟩ := ho
     · have hcs0 : cs = [] := List.eq_nil_of_length_eq_zero (by rw [hl1, Nat.zero_mul])
       subst hcs0
       have hfit := fX (old := 0) (need := m') (by_ := ti.bytes) (by omega) (by have := hb.1; rwa [Nat.zero_add] at this)
       rw [nextslicecap_zero (by omega)] at hfit
       have hrun := run_append_nil (P := P) w t ty e ti z ht hi hz a' m' c' ys h4 hrow (by omega) (by simpa using h63) hfit
       refine ⟨_, _, hrun, ⟨hcs, .inr ⟨w.heap.size, grownCap w m' 0 e, _, by simp, hl, eN w.drew e _, ?_, ?_, ?_, ?_⟩⟩, (cj w).weak.trans (ce _ _).weak, ?_, ⟨_, _, by rw [Nat.zero_add]⟩, ?_⟩
       · rw [Nat.zero_add]; exact grownCap_ge w m' 0 e
       · exact grownCap_le_maxLen w m' 0 e (by omega)
       · have := grownCap_ge w m' 0 e
         rw [Array.size_append, List.size_toArray, h4, size_zeroCells, hzl, ← Nat.add_mul]; congr 1; omega
       · simp only [Nat.zero_add, ← h4, List.nil_append]; simp
       · intro x hx; simp only [vblk, List.mem_singleton] at hx; subst hx; exact .inr (Nat.le_refl _)
       · simp [isNil, hm0]
     · have holds : ∀ j u, cs[j]? = some u → w.cell? ((⟨g, 0, none⟩ : Addr).add j) = some u := by
         have ho' : w.ownsRow lo e ti.size (.slice (some ⟨g, 0, none⟩) m cap) m cs := ⟨hl1, .inr ⟨g, cap, cur, rfl, q1, q2, q3, q4, q5, q6⟩⟩
         exact ho'.cells rfl
       by_cases hroom : m + m' ≤ cap
       · have hrun := run_append_room (P := P) w t ty e ti ht hi g m cap cur q2 a' m' c' ys h4 hrow h1 hroom (by rw [h4, q5, ← Nat.add_mul]; exact Nat.mul_le_mul_right _ hroom)
         have hlen : (cur.toList.take (m * ti.size)).length = m * ti.size := by rw [q6]; exact hl1
         refine ⟨_, _, hrun, ⟨hcs, .inr ⟨g, cap, _, rfl, q1, setRow_heap w g cur _ e _ q2, hroom, q4, ?_, ?_⟩⟩, dR _ _ _, fun x hx => .inl hx, ⟨_, _, rfl⟩, ?_⟩
         · have h7 : (m + m') * ti.size ≤ cap * ti.size := Nat.mul_le_mul_right _ hroom
           rw [Nat.add_mul] at h7
           simp only [List.size_toArray, List.length_append, hlen, h4, List.length_drop, Array.length_toList, q5]; omega
         · rw [q6, ← hcs, List.toList_toArray, List.take_left']; rfl
         · simp [isNil]
       · have hrun := run_append_grow (P := P) w t ty e ti z ht hi hz ⟨g, 0, none⟩ m cap cs hl1 holds a' m' c' ys h4 hrow (by omega) h63 (fX (by omega) hb.1)
         refine ⟨_, _, hrun, ⟨hcs, .inr ⟨w.heap.size, grownCap w (m + m') cap e, _, rfl, hl, eN w.drew e _, ?_, ?_, ?_, ?_⟩⟩, (cj w).weak.trans (ce _ _).weak, ?_, ⟨_, _, rfl⟩, ?_⟩
         · exact grownCap_ge w (m + m') cap e
         · exact grownCap_le_maxLen w (m + m') cap e hml
         · have := grownCap_ge w (m + m') cap e
           have e1 : grownCap w (m + m') cap e = (m + m') + (grownCap w (m + m') cap e - (m + m')) := by omega
           rw [Array.size_append, Array.size_append, List.size_toArray, List.size_toArray, h4, hl1, size_zeroCells, hzl, ← Nat.add_mul, ← Nat.add_mul]; congr 1; omega
         · rw [← hcs, Array.toList_append, List.take_append_of_le_length (by simp)]; simp only [Array.toList_append]; exact List.take_length
         · intro x hx; simp only [vblk, List.mem_singleton] at hx; subst hx; exact .inr (Nat.le_refl _)
         · simp [isNil]
theorem d_app {t e : TypeId} {x y : Operand} {lo s m m' by_ : Nat} {v u : Value} {cs ys zs : List Value} (ht : P.underlying t = some (.slice e)) (he : Ty P e zs s by_) (hs0 : 0 < s) (hzs : zs.length = s)
   (hx : f.ev x = some v) (ho : Own w lo e s v m cs) (hy : f.ev y = some u) (hr : Rd w s u m' ys) (h1 : ∀ c ∈ ys, c.oneCell' = true) (hb : (m + m') * by_ ≤ 140737488355328 ∧ m + m' ≤ 9223372036854775807) (hl : lo ≤ w.heap.size) :
   Does P n f w (.call { callee := .builtin .append, args := #[x, y], argTypes := #[t, t] }) ty
     (fun v' w' => Own w' lo e s v' (m + m') (cs ++ ys) ∧ Keep (vblk v) w w' ∧ (∀ x, x ∈ vblk v' → x ∈ vblk v ∨ w.heap.size ≤ x) ∧ isNil v' = (isNil v && decide (m' = 0))) := by
 intro a ha dst pos aft g K Q hK
 obtain ⟨v', w', hrun, h2, h3, h4, _, h5⟩ := run_app (ty := ty) ht he hs0 hzs ho hr h1 hb hl
 have hr : (execOp a.eval ⟨dst, .call { callee := .builtin .append, args := #[x, y], argTypes := #[t, t] }, ty, pos, aft, g⟩).run P w = .ok (.value v') w' := by
   simp [execOp, resolve, invoke, builtin, ha.ev hx, ha.ev hy, hrun]
 unfold Oper.wp
 rw [hr]
 exact hK _ _ ⟨h2, h3, h4, h5⟩
theorem eW {t e : TypeId} {x y : Operand} {lo : Nat} {v u : Value} {xs ys : List UInt8} {m : Nat} (ht : P.underlying t = some (.slice e)) (he : Ty P e [.int .u8 0] 1 1)
   (hx : f.ev x = some v) (ho : Own w lo e 1 v m (bv xs)) (hy : f.ev y = some u) (hr : RdB w u ys) (hb : m + ys.length ≤ 140737488355328) (hl : lo ≤ w.heap.size) :
   Does P n f w (.call { callee := .builtin .append, args := #[x, y], argTypes := #[t, t] }) ty
     (fun v' w' => Own w' lo e 1 v' (m + ys.length) (bv (xs ++ ys)) ∧ Keep (vblk v) w w' ∧ (∀ x, x ∈ vblk v' → x ∈ vblk v ∨ w.heap.size ≤ x) ∧ isNil v' = (isNil v && decide (ys.length = 0))) :=
 (d_app ht he (by decide) rfl hx ho hy hr (iQ ys) ⟨by omega, by omega⟩ hl).mono fun v' w' ⟨h1, h2, h3, h4⟩ => ⟨by rw [db]; exact h1, h2, h3, h4⟩
theorem d_appZ {t tn e : TypeId} {x y : Operand} {k kn : IntKind} {z : Value} {by_ : Nat} {i : Int} (ht : P.underlying t = some (.slice e)) (htn : P.underlying tn = some (.int kn)) (he : Ty P e [z] 1 by_)
   (hx : f.ev x = some (.slice none 0 0)) (hy : f.ev y = some (.int k i)) (h0 : 0 < i) (hb : i * by_ ≤ 281474976710656 ∧ i ≤ 9223372036854775807) :
   Does P n f w (.call { callee := .builtin .append, args := #[x, y], argTypes := #[t, tn] }) ty
     (fun v' w' => Own w' w.heap.size e 1 v' i.toNat (List.replicate i.toNat z) ∧ isNil v' = false ∧ vblk v' = [w.heap.size] ∧ Keep [] w w') := by
 intro a ha dst pos aft g K Q hK
 obtain ⟨m, rfl⟩ := Int.eq_ofNat_of_zero_le (Int.le_of_lt h0)
 obtain ⟨ti, z', hi, hz, hzc, hs, hby⟩ := he.parts
 have hb1 := hb.1
 rw [← Int.natCast_mul] at hb1
 have hz2 : z'.cells = #[z] := by rw [← Array.toList_inj]; simpa using hzc
 have hrun := Lib.run_append_nil_zeros (P := P) w t tn ty e ti z' k kn ht htn hi hz m (by omega) (by omega) hb.2 (by rw [hby]; omega)
 have hr : (execOp a.eval ⟨dst, .call { callee := .builtin .append, args := #[x, y], argTypes := #[t, tn] }, ty, pos, aft, g⟩).run P w = .ok (.value (.slice (some ⟨w.heap.size, 0, none⟩) m (grownCap w m 0 e))) (w.drew.alloc (.cells (Builtin.zeroCells z'.cells m ++ Builtin.zeroCells z'.cells (grownCap w m 0 e - m)) e)) := by
   simp [execOp, resolve, invoke, builtin, ha.ev hx, ha.ev hy, hrun]
 unfold Oper.wp
 rw [hr]
 have hge := grownCap_ge w m 0 e
 have hzl : ∀ k, (Builtin.zeroCells z'.cells k).toList = List.replicate k z := by
   intro k
   have : Builtin.zeroCells z'.cells k = madeCells #[z] k := by rw [hz2]; simp [Builtin.zeroCells, madeCells]
   rw [this, toList_madeCells_one]
 refine hK _ _ ⟨⟨by simp, .inr ⟨w.heap.size, grownCap w m 0 e, _, rfl, Nat.le_refl _, eN w.drew e _, hge, grownCap_le_maxLen w m 0 e (eK hb.2), ?_, ?_⟩⟩, rfl, rfl, (cj w).trans (ce _ _)⟩
 · rw [← Array.length_toList, Array.toList_append, hzl, hzl]; simp; omega
 · rw [Array.toList_append, hzl, hzl]; simp
theorem Own.cut0 {lo : Nat} {e : TypeId} {s m h : Nat} {v : Value} {cs : List Value} (ho : Own w lo e s v m cs) (hh : h ≤ m) : Own w lo e s (cut v 0 h s) h (cs.take (h * s)) := by
 obtain ⟨hl, ⟨rfl, rfl⟩ | ⟨g, cap, cur, rfl, h1, h2, h3, h4, h5, h6⟩⟩ := ho
 · have : h = 0 := by omega
   subst this
   simp only [Nat.zero_mul, List.take_zero, cut]
   exact dX w lo e s
 · refine ⟨by rw [List.length_take, hl]; exact Nat.min_eq_left (Nat.mul_le_mul_right _ hh), .inr ⟨g, cap, cur, ?_, h1, h2, by omega, h4, h5, ?_⟩⟩
   · by_cases h0 : cap = 0
     · subst h0; simp [cut]
     · simp [cut, h0, Addr.add]
   · rw [← h6, List.take_take, Nat.min_eq_left (Nat.mul_le_mul_right _ hh)]
theorem mH {v : Value} {h s : Nat} {x : Nat} (hx : x ∈ vblk (cut v 0 h s)) : x ∈ vblk v := by
 cases v with
 | slice a n c =>
   cases a with
   | none => simp [cut, vblk] at hx
   | some a =>
     simp only [cut] at hx
     by_cases h0 : c = 0
     · simpa [h0, vblk] using hx
     · simpa [h0, vblk, Addr.add] using hx
 | _ => exact hx
theorem j6 {v : Value} {l h s : Nat} {x : Nat} (hx : x ∈ vblk (cut v l h s)) : x ∈ vblk v := by
 cases v with
 | slice a n c =>
   cases a with
   | none => simp [cut, vblk] at hx
   | some a =>
     simp only [cut] at hx
     by_cases h0 : c = l
     · simpa [h0, vblk] using hx
     · have hb : ∀ (a : Addr) k, (a.add k).block = a.block := fun a k => by unfold Addr.add; split <;> rfl
       simpa [h0, vblk, hb] using hx
 | _ => exact hx
theorem d_cp {t u e : TypeId} {x y : Operand} {lo s m m' by_ : Nat} {v v' : Value} {cs ys zs : List Value} (ht : P.underlying t = some (.slice e)) (he : Ty P e zs 1 by_) (hx : f.ev x = some v) (ho : Own w lo e 1 v m cs)
   (hy : f.ev y = some v') (hr : Rd w 1 v' m' ys) (h1 : ∀ c ∈ ys, c.oneCell' = true) (hs : s = min m' m) :
   Does P n f w (.call { callee := .builtin .copy, args := #[x, y], argTypes := #[t, u] }) ty
     (fun r w' => r = .int .i64 (s : Int) ∧ Own w' lo e 1 v m (ys.take s ++ cs.drop s) ∧ Keep (vblk v) w w' ∧ w'.heap.size = w.heap.size) := by
 intro a ha dst pos aft g K Q hK
 obtain ⟨ti, z, hi, hz, hzc, hsz, hby⟩ := he.parts
 have hsz' : (P.info? e).map (·.size) = some 1 := by rw [hi]; simp [hsz]
 obtain ⟨A', c', rfl, h2, h3, h4, h5, h6⟩ := hr
 have ho' := ho
 have hlc := ho.1
 rw [Nat.mul_one] at h4 hlc
 by_cases hs0 : s = 0
 · have hn : Nat.min m' m = 0 := by show min m' m = 0; omega
   obtain ⟨A, c, hv, _⟩ := ho.rd
   subst hv
   have hrun := run_copy_none (P := P) w t u ty e A A' m c m' c' ht hsz' hn
   have hr : (execOp a.eval ⟨dst, .call { callee := .builtin .copy, args := #[x, y], argTypes := #[t, u] }, ty, pos, aft, g⟩).run P w = .ok (.value (goInt 0)) w := by
     simp [execOp, resolve, invoke, builtin, ha.ev hx, ha.ev hy, hrun]
   unfold Oper.wp
   rw [hr]
   subst hs0
   exact hK _ _ ⟨rfl, by simpa using ho', Keep.refl _ _, rfl⟩
 · have hne : cs ≠ [] := fun h => by subst h; simp at hlc; omega
   obtain ⟨gb, cap, cur, rfl, q1, q2, q3, q4, q5, q6⟩ := ho.raw hne
   rw [Nat.mul_one] at q5 q6
   cases A' with
   | none => have := h5 rfl; omega
   | some a' =>
     have hlen : (ys.take s).length = Nat.min m' m := by show _ = min m' m; rw [List.length_take, h4]; omega
     have hrun := run_copy_row (P := P) w t u ty e gb 0 m cap a' m' c' cur.toArray e (ys.take s) ht hsz' q2 hlen ((h6 a' rfl).take s) (by rw [hlen, List.size_toArray]; show 0 + min m' m ≤ _; omega) (fun c hc => h1 c (List.mem_of_mem_take hc))
     have hl2 : (ys.take s).length = s := by rw [hlen]; exact hs.symm
     rw [hl2] at hrun
     have hr : (execOp a.eval ⟨dst, .call { callee := .builtin .copy, args := #[x, y], argTypes := #[t, u] }, ty, pos, aft, g⟩).run P w = .ok (.value (goInt s)) (w.setRow gb (cur.take 0 ++ ys.take s ++ cur.drop (0 + s)).toArray) := by
       simp [execOp, resolve, invoke, builtin, ha.ev hx, ha.ev hy, hrun]
     unfold Oper.wp
     rw [hr]
     refine hK _ _ ⟨rfl, ⟨by rw [List.length_append, hl2, List.length_drop, hlc]; omega, .inr ⟨gb, cap, _, rfl, q1, setRow_heap w gb _ _ e _ q2, q3, q4, ?_, ?_⟩⟩, dR _ _ _, eB _ _ _⟩
     · simp only [List.size_toArray, List.length_append, List.length_take, List.length_drop, h4]; omega
     · rw [← q6]
       simp only [List.take_zero, List.nil_append, Nat.zero_add, Nat.mul_one]
       rw [List.take_append, hl2, List.take_of_length_le (by rw [hl2]; omega), List.drop_take]
theorem aV {i : FuncId} {args : Array Operand} {ats : Array TypeId} {vs : List Value} {R : Value → World → Prop} (hx : f.evs args.toList = some vs) (hc : Rets P i vs w R) :
   Does P n f w (.call { callee := .value (.func i), args := args, argTypes := ats }) ty R := by
 intro a ha dst pos aft g K Q hK
 obtain ⟨⟨fn, hf, hb, hnm⟩, hcalls⟩ := hc
 have hb' : fn.body.isNone = false := by cases h : fn.body <;> simp_all
 have hm : args.map a.eval = vs.toArray := by rw [← Array.toList_inj]; simp [ha.evs hx]
 have hr : (execOp a.eval ⟨dst, .call { callee := .value (.func i), args := args, argTypes := ats }, ty, pos, aft, g⟩).run P w = .ok (.enter i vs.toArray) w := by
   have hcf : (callFunc i vs.toArray).run P w = .ok (.enter i vs.toArray) w := by
     simp only [callFunc, Sem.run_bind, run_program, Result.andThen_ok, hf, hnm, Bool.false_eq_true, if_false, hb', Sem.run_pure]
   simp [execOp, resolve, Deferred.ofValue, Act.eval, invoke, hm, hcf]
 unfold Oper.wp
 rw [hr]
 exact Calls.mono hcalls fun e w' ⟨v, he, hv⟩ => by subst he; exact hK v w' hv
end
end Go.Eng
namespace Go.Eng
open Go Go.IntWalk
def gv (c : Bool) (v : Value) : Value := bif c then v else undef
theorem fZ {c : Bool} {v : Value} (h : c = true) : gv c v = v := by subst h; rfl
theorem f9 {c : Bool} {v : Value} (h : c = false) : gv c v = undef := by subst h; rfl
def Und (c : Bool) (f : Fr) (t : Nat) (v : Value) : Prop := ∃ u, f.get t = some u ∧ (c = true → u = v)
def UndF (c : Bool) : Fr → Fr → Prop
 | [], _ => True
 | (t, v) :: g, f => Und c f t v ∧ UndF c g f
theorem fu {c : Bool} {f : Fr} {t : Nat} {v : Value} (h : f.get t = some v) : Und c f t v := ⟨v, h, fun _ => rfl⟩
theorem eA {c : Bool} {f : Fr} {t : Nat} {v : Value} (h : f.get t = some (gv c v)) : Und c f t v := ⟨_, h, fun hc => fZ hc⟩
theorem Kn.undF {n : Nat} {f : Fr} {a : Act} {c : Bool} (h : Kn n f a) (hc : c = true) : ∀ {g : Fr}, UndF c g f → Kn n g a
 | [], _ => ⟨h.size, h.defers, fun t v ht => by cases ht⟩
 | (k, u) :: g, hs => by
   obtain ⟨⟨u', h1, h1'⟩, h2⟩ := hs
   have h1'' := h1' hc
   subst h1''
   have ih := Kn.undF h hc h2
   refine ⟨h.size, h.defers, fun t v ht => ?_⟩
   simp only [Fr.get] at ht
   by_cases e : Nat.beq k t = true
   · rw [e] at ht
     simp only [cond_true, Option.some.injEq] at ht
     have e' : k = t := Nat.eq_of_beq_eq_true e
     subst e' ht
     exact h.get _ _ h1
   · have e' : Nat.beq k t = false := eq_false_of_ne_true e
     rw [e'] at ht
     exact ih.get t v ht
section
variable {P : Program} {n : Nat} {f : Fr} {w : World} {ty : TypeId} {fin : Exit → Act → World → Prop} {k : List KI} {ops : Array Oper} {l : List Oper}
def Grd (n : Nat) (ops : Array Oper) (f : Fr) (j : Nat) (want c : Bool) : Prop := ∀ a, Kn n f a → (yielded ops a.tmps j == some want) = c
theorem g8 {a : Act} {j d : Nat} {oj : Oper} {v : Value} (ha : Kn n f a) (hj : ops[j]? = some oj) (hd : oj.dst = some d) (hf : f.get d = some v) :
   yielded ops a.tmps j = match v with | .bool b => some b | _ => none := by
 have hv := ha.get d _ hf
 simp only [yielded, hj, hd, Option.bind_some]
 rcases Nat.lt_or_ge d a.tmps.size with h | h
 · rw [Array.getD_eq_getD_getElem?, Array.getElem?_eq_getElem h, Option.getD_some] at hv
   rw [Array.getElem?_eq_getElem h, hv]
   cases v <;> rfl
 · rw [Array.getD_eq_getD_getElem?, Array.getElem?_eq_none h] at hv
   rw [Array.getElem?_eq_none h]
   subst hv; rfl
theorem dh {j d : Nat} {oj : Oper} {b want c : Bool} (hj : ops[j]? = some oj) (hd : oj.dst = some d) (hf : f.get d = some (.bool b)) (hc : c = (b == want)) : Grd n ops f j want c := by
 intro a ha
 rw [g8 ha hj hd hf, hc]
 cases b <;> cases want <;> rfl
theorem jS {j d : Nat} {oj : Oper} {b want c c' : Bool} (hj : ops[j]? = some oj) (hd : oj.dst = some d) (hf : f.get d = some (gv c' (.bool b))) (hc : c = (c' && (b == want))) : Grd n ops f j want c := by
 intro a ha
 rw [g8 ha hj hd hf, hc]
 cases c' <;> cases b <;> cases want <;> rfl
theorem fy (d : Nat) (want : Bool) {b : Bool} (_hf : f.get d = some (.bool b)) (h : ∀ c, c = (b == want) → OW P fin n k ops l f w) : OW P fin n k ops l f w := h _ rfl
theorem ow_grp2 (d : Nat) (want : Bool) {b c' : Bool} (_hf : f.get d = some (gv c' (.bool b))) (h : ∀ c, c = (c' && (b == want)) → OW P fin n k ops l f w) : OW P fin n k ops l f w := h _ rfl
theorem df (f1 : Fr) {op : Op} {d : Nat} {pos : String} {aft : Array Edge} {j : Nat} {want c : Bool} {v : Value} (hG : Grd n ops f j want c) (hs : UndF c f1 f) (hr : c = true → Gives P n f1 w op ty v w) (hd : Nat.blt d n = true)
   (h : OW P fin n k ops l ((d, gv c v) :: f) w) : OW P fin n k ops (⟨some d, op, ty, pos, aft, some (j, want)⟩ :: l) f w := by
 intro a ha
 have hg := hG a ha
 refine wpList_step fun K hK => ?_
 have hwt : Region.wanted ⟨some d, op, ty, pos, aft, some (j, want)⟩ (yielded ops a.tmps) = c := hg
 rw [hwt]
 cases hc : c with
 | true =>
   rw [if_pos rfl]
   unfold Oper.wp
   rw [hr hc a (ha.undF hc hs)]
   have := h _ (ha.put (ba hd) (gv c v))
   rw [fZ hc] at this
   exact hK _ _ this
 | false =>
   rw [if_neg (by simp)]
   have := h _ (ha.put (ba hd) (gv c v))
   rw [f9 hc] at this
   exact hK _ _ this
theorem bw {op : Op} {d : Nat} {pos : String} {aft : Array Edge} {j : Nat} {want : Bool} {v : Value} (hG : Grd n ops f j want true) (hr : Gives P n f w op ty v w) (hd : Nat.blt d n = true)
   (h : OW P fin n k ops l ((d, v) :: f) w) : OW P fin n k ops (⟨some d, op, ty, pos, aft, some (j, want)⟩ :: l) f w := by
 intro a ha
 refine wpList_step fun K hK => ?_
 have hwt : Region.wanted ⟨some d, op, ty, pos, aft, some (j, want)⟩ (yielded ops a.tmps) = true := hG a ha
 rw [hwt, if_pos rfl]
 unfold Oper.wp
 rw [hr a ha]
 exact hK _ _ (h _ (ha.put (ba hd) v))
theorem ow_gd (f1 : Fr) {op : Op} {d : Nat} {pos : String} {aft : Array Edge} {j : Nat} {want c : Bool} {R : Value → World → Prop} (hG : Grd n ops f j want c) (hs : UndF c f1 f) (hr : c = true → Does P n f1 w op ty R) (hd : Nat.blt d n = true)
   (h : ∀ v w', (c = true → R v w') → (c = false → w' = w) → OW P fin n k ops l ((d, gv c v) :: f) w') : OW P fin n k ops (⟨some d, op, ty, pos, aft, some (j, want)⟩ :: l) f w := by
 intro a ha
 have hg := hG a ha
 refine wpList_step fun K hK => ?_
 have hwt : Region.wanted ⟨some d, op, ty, pos, aft, some (j, want)⟩ (yielded ops a.tmps) = c := hg
 rw [hwt]
 cases hc : c with
 | true =>
   rw [if_pos rfl]
   refine hr hc a (ha.undF hc hs) _ _ _ _ _ _ (fun v w' hv => hK _ _ ?_)
   have := h v w' (fun _ => hv) (fun h => by rw [hc] at h; cases h) _ (ha.put (ba hd) (gv c v))
   rwa [fZ hc] at this
 | false =>
   rw [if_neg (by simp)]
   have := h undef w (fun h => by rw [hc] at h; cases h) (fun _ => rfl) _ (ha.put (ba hd) (gv c undef))
   rw [f9 hc] at this
   exact hK _ _ this
theorem kz {x y : Operand} {b b2 c : Bool} (hx : f.ev x = some (.bool b)) (hy : f.ev y = some (gv c (.bool b2))) (hc : c = (b == true)) : Gives P n f w (.pick x y (.const (.bool false))) ty (.bool (b && b2)) w := by
 intro a ha dst pos aft g
 have h1 := ha.ev hx
 have h2 := ha.ev hy
 have h3 : a.eval (.const (.bool false)) = .bool false := rfl
 subst hc
 cases b <;> simp [execOp, h1, h2, h3, asBool, gv]
theorem iB {x y : Operand} {b b2 c : Bool} (hx : f.ev x = some (.bool b)) (hy : f.ev y = some (gv c (.bool b2))) (hc : c = (b == false)) : Gives P n f w (.pick x (.const (.bool true)) y) ty (.bool (b || b2)) w := by
 intro a ha dst pos aft g
 have h1 := ha.ev hx
 have h2 := ha.ev hy
 have h3 : a.eval (.const (.bool true)) = .bool true := rfl
 subst hc
 cases b <;> simp [execOp, h1, h2, h3, asBool, gv]
theorem ow_pand {x y : Tmp} {d : Nat} {pos : String} {aft : Array Edge} {j : Nat} {want c c2 b b2 : Bool} (hG : Grd n ops f j want c) (hx : Und c f x (.bool b)) (hy : f.get y = some (gv c2 (.bool b2))) (hc2 : c2 = (c && (b == true)))
   (hd : Nat.blt d n = true) (h : OW P fin n k ops l ((d, gv c (.bool (b && b2))) :: f) w) : OW P fin n k ops (⟨some d, .pick (.tmp x) (.tmp y) (.const (.bool false)), ty, pos, aft, some (j, want)⟩ :: l) f w := by
 cases c with
 | false => exact df (c := false) (v := .bool (b && b2)) [] hG trivial (fun h => by cases h) hd h
 | true =>
   have hc2' : c2 = (b == true) := by rw [hc2, Bool.true_and]
   obtain ⟨u, hu, hu'⟩ := hx
   have hu2 := hu' rfl
   subst hu2
   exact bw hG (kz (x := .tmp x) (y := .tmp y) hu hy hc2') hd h
end
def dstOf (l : List Oper) (i : Nat) : Nat := ((l[i]?).bind (·.dst)).getD 0
def hasDst (l : List Oper) (i : Nat) : Bool := ((l[i]?).bind (·.dst)).isSome
def drawOk (n : Nat) (l : List Oper) : Bool :=
 (List.range l.length).all fun i => match l[i]? with
   | none => false
   | some o => Nat.blt (dstOf l i) n && o.after.toList.all (fun e => !Region.binds .any e || Nat.blt e.on i) && (!o.dst.isSome || (List.range l.length).all fun j => i == j || dstOf l i != dstOf l j || !hasDst l j)
def depOk (l : List Oper) (i : Nat) (deps : List Nat) : Bool := deps.all fun j => match l[i]? with
    | none => false
    | some o => hasDst l j && o.after.toList.any fun e => e.on == j && Region.binds .any e
def freeOk (l : List Oper) (f0 : Fr) : Bool := f0.all fun p => (List.range l.length).all fun j => dstOf l j != p.1 || !hasDst l j
def depFr (l : List Oper) (vs : Nat → Value) : List Nat → Fr
 | [] => []
 | j :: r => (dstOf l j, vs j) :: depFr l vs r
section
variable {P : Program} {n : Nat}
def updL (L : Nat → Bool) (i : Nat) : Nat → Bool := fun j => bif Nat.beq j i then true else L j
def ObJ (P : Program) (n : Nat) (l : List Oper) (f0 : Fr) (Rl : World → World → Prop) (J : (Nat → Bool) → World → Prop) (S : Nat → Value → World → Prop) (w0 : World) (i : Nat) (o : Oper) : Prop :=
 ∃ deps : List Nat, depOk l i deps = true ∧ ∀ L w, L i = false → (∀ j, j ∈ deps → L j = true) → Rl w0 w → J L w → ∀ vs : Nat → Value, (∀ j, j ∈ deps → S j (vs j) w) →
   ∃ c : Bool, (∀ a, Kn n (depFr l vs deps ++ f0) a → Region.wanted o (yielded l.toArray a.tmps) = c) ∧
     (c = true → Does P n (depFr l vs deps ++ f0) w o.op o.type (fun v w' => Rl w w' ∧ S i v w' ∧ J (updL L i) w')) ∧ (c = false → S i undef w ∧ J (updL L i) w)
def ObsJ (P : Program) (n : Nat) (l : List Oper) (f0 : Fr) (Rl : World → World → Prop) (J : (Nat → Bool) → World → Prop) (S : Nat → Value → World → Prop) (w0 : World) : Nat → List Oper → Prop
 | _, [] => True
 | i, o :: r => ObJ P n l f0 Rl J S w0 i o ∧ ObsJ P n l f0 Rl J S w0 (i + 1) r
theorem ObsJ.get {l : List Oper} {f0 : Fr} {Rl : World → World → Prop} {J : (Nat → Bool) → World → Prop} {S : Nat → Value → World → Prop} {w0 : World} : ∀ {r : List Oper} {i : Nat}, ObsJ P n l f0 Rl J S w0 i r → ∀ (k : Nat) (o : Oper), r[k]? = some o → ObJ P n l f0 Rl J S w0 (i + k) o
 | [], _, _, k, o, h => by simp at h
 | x :: r, i, ⟨h1, h2⟩, 0, o, h => by simp at h; subst h; exact h1
 | x :: r, i, ⟨h1, h2⟩, k + 1, o, h => by
   have := ObsJ.get h2 k o (by simpa using h)
   rwa [Nat.add_assoc, Nat.add_comm 1 k] at this
theorem Kn.app {f g : Fr} {a : Act} (h1 : ∀ p, p ∈ g → a.tmps.getD p.1 undef = p.2) (h2 : Kn n f a) : Kn n (g ++ f) a := by
 induction g with
 | nil => exact h2
 | cons p r ih =>
   obtain ⟨k, u⟩ := p
   have ih' := ih (fun p hp => h1 p (List.mem_cons_of_mem _ hp))
   refine ⟨h2.size, h2.defers, fun t v ht => ?_⟩
   simp only [List.cons_append, Fr.get] at ht
   by_cases e : Nat.beq k t = true
   · rw [e] at ht
     simp only [cond_true, Option.some.injEq] at ht
     have e' : k = t := Nat.eq_of_beq_eq_true e
     subst e' ht
     exact h1 (k, u) (List.mem_cons_self ..)
   · have e' : Nat.beq k t = false := eq_false_of_ne_true e
     rw [e'] at ht
     exact ih'.get t v ht
theorem Kn.putOther {f : Fr} {a : Act} {d : Nat} (h : Kn n f a) (hd : f.get d = none) (v : Value) : Kn n f (a.put (some d) v) := by
 refine ⟨by simp [Act.put, h.size], by simp [Act.put, h.defers], fun t u ht => ?_⟩
 have hne : d ≠ t := fun e => by subst e; rw [hd] at ht; cases ht
 rw [← h.get t u ht]
 simp only [Act.put, Array.getD_eq_getD_getElem?]
 rw [Array.getElem?_setIfInBounds_ne hne]
theorem dA {l : List Oper} {i : Nat} (hi : i < l.length) (hd : hasDst l i = true) : ∀ {f0 : Fr}, freeOk l f0 = true → f0.get (dstOf l i) = none
 | [], _ => rfl
 | (k, u) :: r, h => by
   simp only [freeOk, List.all_cons, Bool.and_eq_true] at h
   obtain ⟨h1, h2⟩ := h
   have h1' := List.all_eq_true.1 h1 i (List.mem_range.2 hi)
   have hne : dstOf l i ≠ k := by simpa [hd] using h1'
   have e : Nat.beq k (dstOf l i) = false := by
     cases hb : Nat.beq k (dstOf l i) with
     | false => rfl
     | true => exact absurd (Nat.eq_of_beq_eq_true hb).symm hne
   simp only [Fr.get, e, cond_false]
   exact dA hi hd h2
theorem gA {l : List Oper} {vs : Nat → Value} {p : Nat × Value} : ∀ {deps : List Nat}, p ∈ depFr l vs deps → ∃ j, j ∈ deps ∧ p = (dstOf l j, vs j)
 | [], h => by cases h
 | j :: r, h => by
   simp only [depFr, List.mem_cons] at h
   rcases h with h | h
   · exact ⟨j, by simp, h⟩
   · obtain ⟨i, hi, hp⟩ := gA h
     exact ⟨i, by simp [hi], hp⟩
def left (n : Nat) (listed : Array Bool) : Nat := (List.range n).countP fun i => !listed.getD i true
theorem dY {m i : Nat} {listed : Array Bool} (hi : i < m) (hs : listed.size = m) (h : listed.getD i true = false) : left m (listed.setIfInBounds i true) + 1 = left m listed := by
 unfold left
 have key : ∀ (r : List Nat), r.Nodup → i ∈ r → (∀ j, j ∈ r → j < m) → r.countP (fun j => !(listed.setIfInBounds i true).getD j true) + 1 = r.countP (fun j => !listed.getD j true) := by
   intro r hr hmem hlt
   induction r with
   | nil => cases hmem
   | cons x r ih =>
     have hnd := List.nodup_cons.1 hr
     by_cases hx : x = i
     · subst hx
       have e1 : (listed.setIfInBounds x true).getD x true = true := by simp [Array.getD_eq_getD_getElem?, hs, hi]
       have e2 : r.countP (fun j => !(listed.setIfInBounds x true).getD j true) = r.countP (fun j => !listed.getD j true) := by
         refine List.countP_congr fun j hj => ?_
         have hne : x ≠ j := fun e => hnd.1 (e ▸ hj)
         rw [getD_set_ne true hne]
       simp only [List.countP_cons, e1, e2, h]
       simp
     · have hm : i ∈ r := by
         rcases List.mem_cons.1 hmem with h' | h'
         · exact absurd h'.symm hx
         · exact h'
       have ih' := ih hnd.2 hm (fun j hj => hlt j (List.mem_cons_of_mem _ hj))
       simp only [List.countP_cons]
       rw [getD_set_ne true (Ne.symm hx)]
       omega
 exact key _ List.nodup_range (List.mem_range.2 hi) (fun j hj => List.mem_range.1 hj)
theorem eX {m : Nat} {l : List Oper} {listed : Array Bool} (hok : drawOk n l = true) (hm : m = l.length) (hs : listed.size = m) (hr : Region.ready .any l.toArray listed = []) : ∀ i, i < m → listed.getD i false = true := by
 intro i
 induction i using Nat.strongRecOn with
 | _ i ih =>
   intro hi
   cases hc : listed.getD i false with
   | true => rfl
   | false =>
     exfalso
     have hget : l[i]? = some l[i] := List.getElem?_eq_getElem (by omega)
     have h1 := List.all_eq_true.1 hok i (List.mem_range.2 (by omega))
     simp only [hget, Bool.and_eq_true] at h1
     have hin : i ∈ Region.ready .any l.toArray listed := by
       refine mem_ready.2 ⟨?_, l[i], by simp [hget], fun e he hb => ?_⟩
       · rw [Array.getD_eq_getD_getElem?] at hc ⊢
         rw [Array.getElem?_eq_getElem (by omega)] at hc ⊢
         simpa using hc
       · have h2 := List.all_eq_true.1 h1.1.2 e (Array.mem_toList_iff.2 he)
         rw [hb] at h2
         have h3 : e.on < i := ba (by simpa using h2)
         exact ih e.on h3 (by omega)
     rw [hr] at hin
     cases hin
variable {fin : Exit → Act → World → Prop} {k : List KI} {f : Fr} {w : World}
end
end Go.Eng
namespace Go.Eng
open Go Go.IntWalk
section
variable {P : Program} {n : Nat} {f : Fr} {w : World} {ty : TypeId}
theorem g_shlc {k k' : IntKind} {t u : TypeId} {x y : Operand} {i j m : Int} (hx : f.ev x = some (.int k i)) (hy : f.ev y = some (.int k' j)) (h : 0 ≤ j ∧ j ≤ k.bits) (hm : 2 ^ j.toNat = m) :
   Gives P n f w (.binOp .shl t x y u) ty (.int k (k.wrap (i * m))) w := by subst hm; exact ip hx hy h
theorem aq {op : Op} {k : IntKind} {i j : Int} (h : Gives P n f w op ty (.int k i) w) (e : i = j) : Gives P n f w op ty (.int k j) w := by subst e; exact h
end
theorem Bk.pK {w w' : World} {b : Nat} {T : TypeId} {cs : List Value} (h : Bk w b T cs) (k : Keep [] w w') : Bk w' b T cs := h.keep k (fun h => by cases h)
end Go.Eng
namespace Go.Eng
def RdL (w : World) (us : List Value) (ls : List (List UInt8)) : Prop := us.length = ls.length ∧ ∀ (i : Nat) x, ls[i]? = some x → ∃ u, us[i]? = some u ∧ RdB w u x
theorem RdL.pK {w w' : World} {us : List Value} {ls : List (List UInt8)} (h : RdL w us ls) (k : Keep [] w w') : RdL w' us ls :=
 ⟨h.1, fun i x hx => let ⟨u, hu, hr⟩ := h.2 i x hx; ⟨u, hu, hr.pK k⟩⟩
theorem RdL.get {w : World} {us : List Value} {ls : List (List UInt8)} (h : RdL w us ls) {i : Nat} (hi : i < ls.length) : ∃ u x, ls[i]? = some x ∧ us[i]? = some u ∧ RdB w u x := by
 obtain ⟨u, hu, hr⟩ := h.2 i ls[i] (List.getElem?_eq_getElem hi)
 exact ⟨u, _, List.getElem?_eq_getElem hi, hu, hr⟩
theorem jE (w : World) : RdL w [] [] := ⟨rfl, fun i x hx => by simp at hx⟩
theorem de {w : World} {u : Value} {x : List UInt8} {us : List Value} {ls : List (List UInt8)} (h : RdB w u x) (hl : RdL w us ls) : RdL w (u :: us) (x :: ls) := by
 refine ⟨by simp [hl.1], fun i y hy => ?_⟩
 cases i with
 | zero => simp at hy; subst hy; exact ⟨u, rfl, h⟩
 | succ i => simpa using hl.2 i y (by simpa using hy)
end Go.Eng
namespace Go.Eng
open Go
theorem bT {w0 w w' : World} {b1 : Nat} {T1 : TypeId} {c1 : List Value} (k : Keep [] w w') (hB : Keep [] w0 w) (h1 : Bk w b1 T1 c1) : Keep [] w0 w' ∧ Bk w' b1 T1 c1 := ⟨hB.trans k, h1.pK k⟩
theorem ik {w w' : World} {b1 b2 : Nat} {T1 T2 : TypeId} {c1 c2 : List Value} (k : Keep [] w w') (h1 : Bk w b1 T1 c1) (h2 : Bk w b2 T2 c2) : Bk w' b1 T1 c1 ∧ Bk w' b2 T2 c2 := ⟨h1.pK k, h2.pK k⟩
theorem cX {w0 w w' : World} {b1 b2 : Nat} {T1 T2 : TypeId} {c1 c2 : List Value} (k : Keep [] w w') (hB : Keep [] w0 w) (h1 : Bk w b1 T1 c1) (h2 : Bk w b2 T2 c2) : Keep [] w0 w' ∧ Bk w' b1 T1 c1 ∧ Bk w' b2 T2 c2 := ⟨hB.trans k, h1.pK k, h2.pK k⟩
theorem kp3 {w w' : World} {b1 b2 b3 : Nat} {T1 T2 T3 : TypeId} {c1 c2 c3 : List Value} (k : Keep [] w w') (h1 : Bk w b1 T1 c1) (h2 : Bk w b2 T2 c2) (h3 : Bk w b3 T3 c3) : Bk w' b1 T1 c1 ∧ Bk w' b2 T2 c2 ∧ Bk w' b3 T3 c3 := ⟨h1.pK k, h2.pK k, h3.pK k⟩
theorem cy {w0 w w' : World} {b1 b2 b3 : Nat} {T1 T2 T3 : TypeId} {c1 c2 c3 : List Value} (k : Keep [] w w') (hB : Keep [] w0 w) (h1 : Bk w b1 T1 c1) (h2 : Bk w b2 T2 c2) (h3 : Bk w b3 T3 c3) : Keep [] w0 w' ∧ Bk w' b1 T1 c1 ∧ Bk w' b2 T2 c2 ∧ Bk w' b3 T3 c3 := ⟨hB.trans k, h1.pK k, h2.pK k, h3.pK k⟩
theorem kp4 {w w' : World} {b1 b2 b3 b4 : Nat} {T1 T2 T3 T4 : TypeId} {c1 c2 c3 c4 : List Value} (k : Keep [] w w') (h1 : Bk w b1 T1 c1) (h2 : Bk w b2 T2 c2) (h3 : Bk w b3 T3 c3) (h4 : Bk w b4 T4 c4) : Bk w' b1 T1 c1 ∧ Bk w' b2 T2 c2 ∧ Bk w' b3 T3 c3 ∧ Bk w' b4 T4 c4 := ⟨h1.pK k, h2.pK k, h3.pK k, h4.pK k⟩
theorem dg {w0 w w' : World} {b1 b2 b3 b4 : Nat} {T1 T2 T3 T4 : TypeId} {c1 c2 c3 c4 : List Value} (k : Keep [] w w') (hB : Keep [] w0 w) (h1 : Bk w b1 T1 c1) (h2 : Bk w b2 T2 c2) (h3 : Bk w b3 T3 c3) (h4 : Bk w b4 T4 c4) : Keep [] w0 w' ∧ Bk w' b1 T1 c1 ∧ Bk w' b2 T2 c2 ∧ Bk w' b3 T3 c3 ∧ Bk w' b4 T4 c4 := ⟨hB.trans k, h1.pK k, h2.pK k, h3.pK k, h4.pK k⟩
theorem kp5 {w w' : World} {b1 b2 b3 b4 b5 : Nat} {T1 T2 T3 T4 T5 : TypeId} {c1 c2 c3 c4 c5 : List Value} (k : Keep [] w w') (h1 : Bk w b1 T1 c1) (h2 : Bk w b2 T2 c2) (h3 : Bk w b3 T3 c3) (h4 : Bk w b4 T4 c4) (h5 : Bk w b5 T5 c5) : Bk w' b1 T1 c1 ∧ Bk w' b2 T2 c2 ∧ Bk w' b3 T3 c3 ∧ Bk w' b4 T4 c4 ∧ Bk w' b5 T5 c5 := ⟨h1.pK k, h2.pK k, h3.pK k, h4.pK k, h5.pK k⟩
theorem dz {w0 w w' : World} {b1 b2 b3 b4 b5 : Nat} {T1 T2 T3 T4 T5 : TypeId} {c1 c2 c3 c4 c5 : List Value} (k : Keep [] w w') (hB : Keep [] w0 w) (h1 : Bk w b1 T1 c1) (h2 : Bk w b2 T2 c2) (h3 : Bk w b3 T3 c3) (h4 : Bk w b4 T4 c4) (h5 : Bk w b5 T5 c5) : Keep [] w0 w' ∧ Bk w' b1 T1 c1 ∧ Bk w' b2 T2 c2 ∧ Bk w' b3 T3 c3 ∧ Bk w' b4 T4 c4 ∧ Bk w' b5 T5 c5 := ⟨hB.trans k, h1.pK k, h2.pK k, h3.pK k, h4.pK k, h5.pK k⟩
theorem kp6 {w w' : World} {b1 b2 b3 b4 b5 b6 : Nat} {T1 T2 T3 T4 T5 T6 : TypeId} {c1 c2 c3 c4 c5 c6 : List Value} (k : Keep [] w w') (h1 : Bk w b1 T1 c1) (h2 : Bk w b2 T2 c2) (h3 : Bk w b3 T3 c3) (h4 : Bk w b4 T4 c4) (h5 : Bk w b5 T5 c5) (h6 : Bk w b6 T6 c6) : Bk w' b1 T1 c1 ∧ Bk w' b2 T2 c2 ∧ Bk w' b3 T3 c3 ∧ Bk w' b4 T4 c4 ∧ Bk w' b5 T5 c5 ∧ Bk w' b6 T6 c6 := ⟨h1.pK k, h2.pK k, h3.pK k, h4.pK k, h5.pK k, h6.pK k⟩
theorem kq6 {w0 w w' : World} {b1 b2 b3 b4 b5 b6 : Nat} {T1 T2 T3 T4 T5 T6 : TypeId} {c1 c2 c3 c4 c5 c6 : List Value} (k : Keep [] w w') (hB : Keep [] w0 w) (h1 : Bk w b1 T1 c1) (h2 : Bk w b2 T2 c2) (h3 : Bk w b3 T3 c3) (h4 : Bk w b4 T4 c4) (h5 : Bk w b5 T5 c5) (h6 : Bk w b6 T6 c6) : Keep [] w0 w' ∧ Bk w' b1 T1 c1 ∧ Bk w' b2 T2 c2 ∧ Bk w' b3 T3 c3 ∧ Bk w' b4 T4 c4 ∧ Bk w' b5 T5 c5 ∧ Bk w' b6 T6 c6 := ⟨hB.trans k, h1.pK k, h2.pK k, h3.pK k, h4.pK k, h5.pK k, h6.pK k⟩
theorem kp7 {w w' : World} {b1 b2 b3 b4 b5 b6 b7 : Nat} {T1 T2 T3 T4 T5 T6 T7 : TypeId} {c1 c2 c3 c4 c5 c6 c7 : List Value} (k : Keep [] w w') (h1 : Bk w b1 T1 c1) (h2 : Bk w b2 T2 c2) (h3 : Bk w b3 T3 c3) (h4 : Bk w b4 T4 c4) (h5 : Bk w b5 T5 c5) (h6 : Bk w b6 T6 c6) (h7 : Bk w b7 T7 c7) : Bk w' b1 T1 c1 ∧ Bk w' b2 T2 c2 ∧ Bk w' b3 T3 c3 ∧ Bk w' b4 T4 c4 ∧ Bk w' b5 T5 c5 ∧ Bk w' b6 T6 c6 ∧ Bk w' b7 T7 c7 := ⟨h1.pK k, h2.pK k, h3.pK k, h4.pK k, h5.pK k, h6.pK k, h7.pK k⟩
theorem kq7 {w0 w w' : World} {b1 b2 b3 b4 b5 b6 b7 : Nat} {T1 T2 T3 T4 T5 T6 T7 : TypeId} {c1 c2 c3 c4 c5 c6 c7 : List Value} (k : Keep [] w w') (hB : Keep [] w0 w) (h1 : Bk w b1 T1 c1) (h2 : Bk w b2 T2 c2) (h3 : Bk w b3 T3 c3) (h4 : Bk w b4 T4 c4) (h5 : Bk w b5 T5 c5) (h6 : Bk w b6 T6 c6) (h7 : Bk w b7 T7 c7) : Keep [] w0 w' ∧ Bk w' b1 T1 c1 ∧ Bk w' b2 T2 c2 ∧ Bk w' b3 T3 c3 ∧ Bk w' b4 T4 c4 ∧ Bk w' b5 T5 c5 ∧ Bk w' b6 T6 c6 ∧ Bk w' b7 T7 c7 := ⟨hB.trans k, h1.pK k, h2.pK k, h3.pK k, h4.pK k, h5.pK k, h6.pK k, h7.pK k⟩
theorem kp8 {w w' : World} {b1 b2 b3 b4 b5 b6 b7 b8 : Nat} {T1 T2 T3 T4 T5 T6 T7 T8 : TypeId} {c1 c2 c3 c4 c5 c6 c7 c8 : List Value} (k : Keep [] w w') (h1 : Bk w b1 T1 c1) (h2 : Bk w b2 T2 c2) (h3 : Bk w b3 T3 c3) (h4 : Bk w b4 T4 c4) (h5 : Bk w b5 T5 c5) (h6 : Bk w b6 T6 c6) (h7 : Bk w b7 T7 c7) (h8 : Bk w b8 T8 c8) : Bk w' b1 T1 c1 ∧ Bk w' b2 T2 c2 ∧ Bk w' b3 T3 c3 ∧ Bk w' b4 T4 c4 ∧ Bk w' b5 T5 c5 ∧ Bk w' b6 T6 c6 ∧ Bk w' b7 T7 c7 ∧ Bk w' b8 T8 c8 := ⟨h1.pK k, h2.pK k, h3.pK k, h4.pK k, h5.pK k, h6.pK k, h7.pK k, h8.pK k⟩
theorem kq8 {w0 w w' : World} {b1 b2 b3 b4 b5 b6 b7 b8 : Nat} {T1 T2 T3 T4 T5 T6 T7 T8 : TypeId} {c1 c2 c3 c4 c5 c6 c7 c8 : List Value} (k : Keep [] w w') (hB : Keep [] w0 w) (h1 : Bk w b1 T1 c1) (h2 : Bk w b2 T2 c2) (h3 : Bk w b3 T3 c3) (h4 : Bk w b4 T4 c4) (h5 : Bk w b5 T5 c5) (h6 : Bk w b6 T6 c6) (h7 : Bk w b7 T7 c7) (h8 : Bk w b8 T8 c8) : Keep [] w0 w' ∧ Bk w' b1 T1 c1 ∧ Bk w' b2 T2 c2 ∧ Bk w' b3 T3 c3 ∧ Bk w' b4 T4 c4 ∧ Bk w' b5 T5 c5 ∧ Bk w' b6 T6 c6 ∧ Bk w' b7 T7 c7 ∧ Bk w' b8 T8 c8 := ⟨hB.trans k, h1.pK k, h2.pK k, h3.pK k, h4.pK k, h5.pK k, h6.pK k, h7.pK k, h8.pK k⟩
theorem kp9 {w w' : World} {b1 b2 b3 b4 b5 b6 b7 b8 b9 : Nat} {T1 T2 T3 T4 T5 T6 T7 T8 T9 : TypeId} {c1 c2 c3 c4 c5 c6 c7 c8 c9 : List Value} (k : Keep [] w w') (h1 : Bk w b1 T1 c1) (h2 : Bk w b2 T2 c2) (h3 : Bk w b3 T3 c3) (h4 : Bk w b4 T4 c4) (h5 : Bk w b5 T5 c5) (h6 : Bk w b6 T6 c6) (h7 : Bk w b7 T7 c7) (h8 : Bk w b8 T8 c8) (h9 : Bk w b9 T9 c9) : Bk w' b1 T1 c1 ∧ Bk w' b2 T2 c2 ∧ Bk w' b3 T3 c3 ∧ Bk w' b4 T4 c4 ∧ Bk w' b5 T5 c5 ∧ Bk w' b6 T6 c6 ∧ Bk w' b7 T7 c7 ∧ Bk w' b8 T8 c8 ∧ Bk w' b9 T9 c9 := ⟨h1.pK k, h2.pK k, h3.pK k, h4.pK k, h5.pK k, h6.pK k, h7.pK k, h8.pK k, h9.pK k⟩
theorem kq9 {w0 w w' : World} {b1 b2 b3 b4 b5 b6 b7 b8 b9 : Nat} {T1 T2 T3 T4 T5 T6 T7 T8 T9 : TypeId} {c1 c2 c3 c4 c5 c6 c7 c8 c9 : List Value} (k : Keep [] w w') (hB : Keep [] w0 w) (h1 : Bk w b1 T1 c1) (h2 : Bk w b2 T2 c2) (h3 : Bk w b3 T3 c3) (h4 : Bk w b4 T4 c4) (h5 : Bk w b5 T5 c5) (h6 : Bk w b6 T6 c6) (h7 : Bk w b7 T7 c7) (h8 : Bk w b8 T8 c8) (h9 : Bk w b9 T9 c9) : Keep [] w0 w' ∧ Bk w' b1 T1 c1 ∧ Bk w' b2 T2 c2 ∧ Bk w' b3 T3 c3 ∧ Bk w' b4 T4 c4 ∧ Bk w' b5 T5 c5 ∧ Bk w' b6 T6 c6 ∧ Bk w' b7 T7 c7 ∧ Bk w' b8 T8 c8 ∧ Bk w' b9 T9 c9 := ⟨hB.trans k, h1.pK k, h2.pK k, h3.pK k, h4.pK k, h5.pK k, h6.pK k, h7.pK k, h8.pK k, h9.pK k⟩
theorem kp10 {w w' : World} {b1 b2 b3 b4 b5 b6 b7 b8 b9 b10 : Nat} {T1 T2 T3 T4 T5 T6 T7 T8 T9 T10 : TypeId} {c1 c2 c3 c4 c5 c6 c7 c8 c9 c10 : List Value} (k : Keep [] w w') (h1 : Bk w b1 T1 c1) (h2 : Bk w b2 T2 c2) (h3 : Bk w b3 T3 c3) (h4 : Bk w b4 T4 c4) (h5 : Bk w b5 T5 c5) (h6 : Bk w b6 T6 c6) (h7 : Bk w b7 T7 c7) (h8 : Bk w b8 T8 c8) (h9 : Bk w b9 T9 c9) (h10 : Bk w b10 T10 c10) : Bk w' b1 T1 c1 ∧ Bk w' b2 T2 c2 ∧ Bk w' b3 T3 c3 ∧ Bk w' b4 T4 c4 ∧ Bk w' b5 T5 c5 ∧ Bk w' b6 T6 c6 ∧ Bk w' b7 T7 c7 ∧ Bk w' b8 T8 c8 ∧ Bk w' b9 T9 c9 ∧ Bk w' b10 T10 c10 := ⟨h1.pK k, h2.pK k, h3.pK k, h4.pK k, h5.pK k, h6.pK k, h7.pK k, h8.pK k, h9.pK k, h10.pK k⟩
theorem kq10 {w0 w w' : World} {b1 b2 b3 b4 b5 b6 b7 b8 b9 b10 : Nat} {T1 T2 T3 T4 T5 T6 T7 T8 T9 T10 : TypeId} {c1 c2 c3 c4 c5 c6 c7 c8 c9 c10 : List Value} (k : Keep [] w w') (hB : Keep [] w0 w) (h1 : Bk w b1 T1 c1) (h2 : Bk w b2 T2 c2) (h3 : Bk w b3 T3 c3) (h4 : Bk w b4 T4 c4) (h5 : Bk w b5 T5 c5) (h6 : Bk w b6 T6 c6) (h7 : Bk w b7 T7 c7) (h8 : Bk w b8 T8 c8) (h9 : Bk w b9 T9 c9) (h10 : Bk w b10 T10 c10) : Keep [] w0 w' ∧ Bk w' b1 T1 c1 ∧ Bk w' b2 T2 c2 ∧ Bk w' b3 T3 c3 ∧ Bk w' b4 T4 c4 ∧ Bk w' b5 T5 c5 ∧ Bk w' b6 T6 c6 ∧ Bk w' b7 T7 c7 ∧ Bk w' b8 T8 c8 ∧ Bk w' b9 T9 c9 ∧ Bk w' b10 T10 c10 := ⟨hB.trans k, h1.pK k, h2.pK k, h3.pK k, h4.pK k, h5.pK k, h6.pK k, h7.pK k, h8.pK k, h9.pK k, h10.pK k⟩
theorem kp11 {w w' : World} {b1 b2 b3 b4 b5 b6 b7 b8 b9 b10 b11 : Nat} {T1 T2 T3 T4 T5 T6 T7 T8 T9 T10 T11 : TypeId} {c1 c2 c3 c4 c5 c6 c7 c8 c9 c10 c11 : List Value} (k : Keep [] w w') (h1 : Bk w b1 T1 c1) (h2 : Bk w b2 T2 c2) (h3 : Bk w b3 T3 c3) (h4 : Bk w b4 T4 c4) (h5 : Bk w b5 T5 c5) (h6 : Bk w b6 T6 c6) (h7 : Bk w b7 T7 c7) (h8 : Bk w b8 T8 c8) (h9 : Bk w b9 T9 c9) (h10 : Bk w b10 T10 c10) (h11 : Bk w b11 T11 c11) : Bk w' b1 T1 c1 ∧ Bk w' b2 T2 c2 ∧ Bk w' b3 T3 c3 ∧ Bk w' b4 T4 c4 ∧ Bk w' b5 T5 c5 ∧ Bk w' b6 T6 c6 ∧ Bk w' b7 T7 c7 ∧ Bk w' b8 T8 c8 ∧ Bk w' b9 T9 c9 ∧ Bk w' b10 T10 c10 ∧ Bk w' b11 T11 c11 := ⟨h1.pK k, h2.pK k, h3.pK k, h4.pK k, h5.pK k, h6.pK k, h7.pK k, h8.pK k, h9.pK k, h10.pK k, h11.pK k⟩
theorem kq11 {w0 w w' : World} {b1 b2 b3 b4 b5 b6 b7 b8 b9 b10 b11 : Nat} {T1 T2 T3 T4 T5 T6 T7 T8 T9 T10 T11 : TypeId} {c1 c2 c3 c4 c5 c6 c7 c8 c9 c10 c11 : List Value} (k : Keep [] w w') (hB : Keep [] w0 w) (h1 : Bk w b1 T1 c1) (h2 : Bk w b2 T2 c2) (h3 : Bk w b3 T3 c3) (h4 : Bk w b4 T4 c4) (h5 : Bk w b5 T5 c5) (h6 : Bk w b6 T6 c6) (h7 : Bk w b7 T7 c7) (h8 : Bk w b8 T8 c8) (h9 : Bk w b9 T9 c9) (h10 : Bk w b10 T10 c10) (h11 : Bk w b11 T11 c11) : Keep [] w0 w' ∧ Bk w' b1 T1 c1 ∧ Bk w' b2 T2 c2 ∧ Bk w' b3 T3 c3 ∧ Bk w' b4 T4 c4 ∧ Bk w' b5 T5 c5 ∧ Bk w' b6 T6 c6 ∧ Bk w' b7 T7 c7 ∧ Bk w' b8 T8 c8 ∧ Bk w' b9 T9 c9 ∧ Bk w' b10 T10 c10 ∧ Bk w' b11 T11 c11 := ⟨hB.trans k, h1.pK k, h2.pK k, h3.pK k, h4.pK k, h5.pK k, h6.pK k, h7.pK k, h8.pK k, h9.pK k, h10.pK k, h11.pK k⟩
theorem kp12 {w w' : World} {b1 b2 b3 b4 b5 b6 b7 b8 b9 b10 b11 b12 : Nat} {T1 T2 T3 T4 T5 T6 T7 T8 T9 T10 T11 T12 : TypeId} {c1 c2 c3 c4 c5 c6 c7 c8 c9 c10 c11 c12 : List Value} (k : Keep [] w w') (h1 : Bk w b1 T1 c1) (h2 : Bk w b2 T2 c2) (h3 : Bk w b3 T3 c3) (h4 : Bk w b4 T4 c4) (h5 : Bk w b5 T5 c5) (h6 : Bk w b6 T6 c6) (h7 : Bk w b7 T7 c7) (h8 : Bk w b8 T8 c8) (h9 : Bk w b9 T9 c9) (h10 : Bk w b10 T10 c10) (h11 : Bk w b11 T11 c11) (h12 : Bk w b12 T12 c12) : Bk w' b1 T1 c1 ∧ Bk w' b2 T2 c2 ∧ Bk w' b3 T3 c3 ∧ Bk w' b4 T4 c4 ∧ Bk w' b5 T5 c5 ∧ Bk w' b6 T6 c6 ∧ Bk w' b7 T7 c7 ∧ Bk w' b8 T8 c8 ∧ Bk w' b9 T9 c9 ∧ Bk w' b10 T10 c10 ∧ Bk w' b11 T11 c11 ∧ Bk w' b12 T12 c12 := ⟨h1.pK k, h2.pK k, h3.pK k, h4.pK k, h5.pK k, h6.pK k, h7.pK k, h8.pK k, h9.pK k, h10.pK k, h11.pK k, h12.pK k⟩
theorem kq12 {w0 w w' : World} {b1 b2 b3 b4 b5 b6 b7 b8 b9 b10 b11 b12 : Nat} {T1 T2 T3 T4 T5 T6 T7 T8 T9 T10 T11 T12 : TypeId} {c1 c2 c3 c4 c5 c6 c7 c8 c9 c10 c11 c12 : List Value} (k : Keep [] w w') (hB : Keep [] w0 w) (h1 : Bk w b1 T1 c1) (h2 : Bk w b2 T2 c2) (h3 : Bk w b3 T3 c3) (h4 : Bk w b4 T4 c4) (h5 : Bk w b5 T5 c5) (h6 : Bk w b6 T6 c6) (h7 : Bk w b7 T7 c7) (h8 : Bk w b8 T8 c8) (h9 : Bk w b9 T9 c9) (h10 : Bk w b10 T10 c10) (h11 : Bk w b11 T11 c11) (h12 : Bk w b12 T12 c12) : Keep [] w0 w' ∧ Bk w' b1 T1 c1 ∧ Bk w' b2 T2 c2 ∧ Bk w' b3 T3 c3 ∧ Bk w' b4 T4 c4 ∧ Bk w' b5 T5 c5 ∧ Bk w' b6 T6 c6 ∧ Bk w' b7 T7 c7 ∧ Bk w' b8 T8 c8 ∧ Bk w' b9 T9 c9 ∧ Bk w' b10 T10 c10 ∧ Bk w' b11 T11 c11 ∧ Bk w' b12 T12 c12 := ⟨hB.trans k, h1.pK k, h2.pK k, h3.pK k, h4.pK k, h5.pK k, h6.pK k, h7.pK k, h8.pK k, h9.pK k, h10.pK k, h11.pK k, h12.pK k⟩
end Go.Eng
namespace Go.Eng
open Go Go.IntWalk
def plB (P : Program) (T : TypeId) : Option (List (Nat × Nat)) := match P.underlying T with
 | some (.struct fs) => fs.toList.mapM fun fd => (P.info? fd.type).map fun i => (fd.offset, i.size)
 | _ => none
def Pl (P : Program) (T : TypeId) (pls : List (Nat × Nat)) : Prop := plB P T = some pls
def bldL (pls : List (Nat × Nat)) : List Value → List (Nat × List Value) → Option (List Value)
 | cs, [] => some cs
 | cs, (i, vs) :: r => match pls[i]? with
   | some (off, size) => bif Nat.beq vs.length size && Nat.ble (off + size) cs.length then bldL pls (cs.take off ++ vs ++ cs.drop (off + size)) r else none
   | none => none
def CellsOf : List Value → List (List Value) → Prop
 | [], [] => True
 | v :: r, c :: t => v.cells = c.toArray ∧ CellsOf r t
 | _, _ => False
def enumC : List Nat → List (List Value) → List (Nat × List Value)
 | i :: r, c :: t => (i, c) :: enumC r t
 | _, _ => []
def enumI : List Nat → List Value → List (Nat × Value)
 | i :: r, c :: t => (i, c) :: enumI r t
 | _, _ => []
def enumO : List Nat → List Operand → List (Nat × Operand)
 | i :: r, c :: t => (i, c) :: enumO r t
 | _, _ => []
section
variable {P : Program} {n : Nat} {f : Fr} {w : World} {ty : TypeId}
theorem iK {place : Nat → Option (Nat × Nat)} {pls : List (Nat × Nat)} (hpl : ∀ i x, pls[i]? = some x → place i = some x) : ∀ (idx : List Nat) (vs : List Value) (css : List (List Value)) (cs out : List Value), CellsOf vs css → idx.length = vs.length →
   bldL pls cs (enumC idx css) = some out → Instr.fill place cs.toArray (enumI idx vs) = some out.toArray
 | [], [], [], cs, out, _, _, h => by simp only [enumC, bldL, Option.some.injEq] at h; subst h; rfl
 | i :: idx, v :: vs, c :: css, cs, out, ⟨h1, h2⟩, hl, h => by
   simp only [enumC, bldL] at h
   split at h
   · rename_i off size hp
     cases hb : (Nat.beq c.length size && Nat.ble (off + size) cs.length) with
     | false => rw [hb] at h; cases h
     | true =>
       rw [hb] at h
       simp only [cond_true] at h
       simp only [Bool.and_eq_true] at hb
       have e1 : c.length = size := Nat.eq_of_beq_eq_true hb.1
       have e2 : off + size ≤ cs.length := Nat.le_of_ble_eq_true hb.2
       subst e1
       simp only [enumI, Instr.fill, hpl _ _ hp, h1, List.size_toArray]
       rw [if_neg (by simp; omega)]
       have hz := iI off c 0 cs (by omega)
       have hz' : (c.toArray.zipIdx.foldl (fun (cs : Array Value) (c : Value × Nat) => cs.setIfInBounds (off + c.2) c.1) cs.toArray) = (cs.take off ++ c ++ cs.drop (off + c.length)).toArray := by
         rw [← Array.foldl_toList, Array.toList_zipIdx]
         simpa using hz
       rw [hz']
       exact iK hpl idx vs css _ out h2 (by simpa using hl) h
   · cases h
 | [], _ :: _, _, _, _, _, hl, _ => by simp at hl
 | _ :: _, [], _, _, _, _, hl, _ => by simp at hl
 | [], [], _ :: _, _, _, hc, _, _ => hc.elim
 | _ :: _, _ :: _, [], _, _, hc, _, _ => hc.elim
theorem gE {a : Act} (ha : Kn n f a) : ∀ {idx : List Nat} {xs : List Operand} {vs : List Value}, f.evs xs = some vs → (enumO idx xs).map (fun p => (p.1, a.eval p.2)) = enumI idx vs
  | [], xs, vs, _ => by simp [enumO, enumI]
  | i :: idx, [], vs, h => by simp only [Fr.evs, Option.some.injEq] at h; subst h; rfl
  | i :: idx, x :: r, vs, h => by
    unfold Fr.evs at h
    split at h
    · rename_i v hv
      split at h
      · rename_i us hu
        simp only [Option.some.injEq] at h
        subst h
        simp only [enumO, enumI, List.map_cons, ha.ev hv, gE ha hu]
      · cases h
    · cases h
theorem kh {fs : Array Field} {pls : List (Nat × Nat)} (h : fs.toList.mapM (fun fd => (P.info? fd.type).map fun i => (fd.offset, i.size)) = some pls) (w : World) :
    (fs.mapM fun fd => (do pure (fd.offset, ← sizeOf fd.type) : Sem (Nat × Nat))).run P w = .ok pls.toArray w := by
  obtain ⟨l⟩ := fs
  simp only at h
  rw [List.mapM_toArray]
  have key : ∀ (l : List Field) (pls : List (Nat × Nat)), l.mapM (fun fd => (P.info? fd.type).map fun i => (fd.offset, i.size)) = some pls → (l.mapM fun fd => (do pure (fd.offset, ← sizeOf fd.type) : Sem (Nat × Nat))).run P w = .ok pls w := by
    intro l
    induction l with
    | nil => intro pls h; simp at h; subst h; rfl
    | cons x r ih =>
      intro pls h
      simp only [List.mapM_cons] at h ⊢
      cases hi : P.info? x.type with
      | none => rw [hi] at h; cases h
      | some i =>
        rw [hi] at h
        simp only [Option.map_some, Option.bind_eq_bind, Option.bind_some, Option.pure_def] at h
        cases hr : r.mapM (fun fd => (P.info? fd.type).map fun i => (fd.offset, i.size)) with
        | none => rw [hr] at h; cases h
        | some q =>
          rw [hr] at h
          simp only [Option.bind_some, Option.some.injEq] at h
          subst h
          have := ih q hr
          simp only [Sem.run_bind, sizeOf, typeInfo, run_program, Result.andThen_ok, hi, Sem.run_pure] at this ⊢
          rw [this]
          rfl
  have := key l pls h
  simp only [Sem.run_map, this, Result.andThen_ok]
theorem cd {T : TypeId} {pls : List (Nat × Nat)} {zs : List Value} {s by_ : Nat} {parts : Array (Nat × Operand)} {idx : List Nat} {xs : List Operand} {vs : List Value} {css : List (List Value)} {out : List Value}
   (hp : Pl P T pls) (hz : Ty P T zs s by_) (hpa : parts.toList = enumO idx xs) (hx : f.evs xs = some vs) (hc : CellsOf vs css) (hl : idx.length = vs.length) (hb : bldL pls zs (enumC idx css) = some out) :
   Gives P n f w (.build T parts) ty (.agg out.toArray) w := by
 intro a ha dst pos aft g
 unfold Pl plB at hp
 cases hu : P.underlying T with
 | none => rw [hu] at hp; cases hp
 | some d =>
   rw [hu] at hp
   cases d with
   | struct fs =>
     simp only at hp
     obtain ⟨z, hzc, hrz⟩ := hz.zeroValue w
     have hpv : (parts.map fun p => (p.1, a.eval p.2)) = (enumI idx vs).toArray := by
       rw [← Array.toList_inj]; simp [hpa, gE ha hx]
     have hfill := iK (place := fun i => pls.toArray[i]?) (pls := pls) (fun i x h => by simpa using h) idx vs css zs out hc hl hb
     have hzz : z.cells = zs.toArray := by rw [← Array.toList_inj]; simpa using hzc
     simp only [execOp, Instr.build, Sem.run_bind, hrz, Result.andThen_ok, run_underlying hu, kh hp, hpv, hzz]
     simp only [hfill, Sem.run_pure, Result.andThen_ok]
   | _ => cases hp
theorem cx {T e : TypeId} {m : Nat} {zs ze : List Value} {s by_ se be_ : Nat} {parts : Array (Nat × Operand)} {idx : List Nat} {xs : List Operand} {vs : List Value} {css : List (List Value)} {out : List Value} {pls : List (Nat × Nat)}
   (hT : P.underlying T = some (.array m e)) (he : Ty P e ze se be_) (hz : Ty P T zs s by_) (hpl : ∀ i x, pls[i]? = some x → some (i * se, se) = some x) (hpa : parts.toList = enumO idx xs) (hx : f.evs xs = some vs) (hc : CellsOf vs css) (hl : idx.length = vs.length) (hb : bldL pls zs (enumC idx css) = some out) :
   Gives P n f w (.build T parts) ty (.agg out.toArray) w := by
 intro a ha dst pos aft g
 obtain ⟨z, hzc, hrz⟩ := hz.zeroValue w
 have hpv : (parts.map fun p => (p.1, a.eval p.2)) = (enumI idx vs).toArray := by
   rw [← Array.toList_inj]; simp [hpa, gE ha hx]
 have hfill := iK (place := fun i => some (i * se, se)) (pls := pls) hpl idx vs css zs out hc hl hb
 have hzz : z.cells = zs.toArray := by rw [← Array.toList_inj]; simpa using hzc
 simp only [execOp, Instr.build, Sem.run_bind, hrz, Result.andThen_ok, run_underlying hT, he.sizeOf, hpv, hzz]
 simp only [hfill, Sem.run_pure, Result.andThen_ok]
end
end Go.Eng
namespace Go.Eng
open Go Go.IntWalk
def tailOk (l : List Oper) (p : Nat) : Bool := Nat.ble p l.length && (List.range l.length).all fun i => Nat.blt i p || (List.range i).all fun j => match l[i]? with
  | none => false
  | some o => o.after.toList.any fun e => e.on == j && Region.binds .any e
section
variable {P : Program} {n : Nat}
theorem ja {l : List Oper} {p i j : Nat} (h : tailOk l p = true) (hi : i < l.length) (hp : p ≤ i) (hj : j < i) {o : Oper} (ho : l[i]? = some o) : ∃ e ∈ o.after, e.on = j ∧ Region.binds .any e = true := by
 simp only [tailOk, Bool.and_eq_true] at h
 have h1 := List.all_eq_true.1 h.2 i (List.mem_range.2 hi)
 have hn : Nat.blt i p = false := by
   cases hb : Nat.blt i p with
   | false => rfl
   | true => have := ba hb; omega
 rw [hn, Bool.false_or] at h1
 have h2 := List.all_eq_true.1 h1 j (List.mem_range.2 hj)
 rw [ho] at h2
 obtain ⟨e, he, h3⟩ := List.any_eq_true.1 h2
 simp only [Bool.and_eq_true, beq_iff_eq] at h3
 exact ⟨e, Array.mem_toList_iff.1 he, h3.1, h3.2⟩
theorem bL {listed : Array Bool} {i m : Nat} (hs : listed.size = m) (hi : i < m) (d d' : Bool) : listed.getD i d = listed.getD i d' := by
 rw [Array.getD_eq_getD_getElem?, Array.getD_eq_getD_getElem?, Array.getElem?_eq_getElem (by omega)]; rfl
theorem g9 {l : List Oper} {p0 : Nat} {Q : Exit → Act → World → Prop} (hok : drawOk n l = true) (ht : tailOk l p0 = true) : ∀ (d p fuel : Nat) (listed : Array Bool) (a : Act) (w : World), d = l.length - p → p ≤ l.length → p0 ≤ p → d ≤ fuel → listed.size = l.length →
   (∀ i, i < l.length → listed.getD i false = decide (i < p)) → wpList P l.toArray Q (l.drop p) a w → wpAny P .any l.toArray Q fuel listed a w := by
 intro d
 induction d with
 | zero =>
   intro p fuel listed a w hd hp hp0 hf hs hl h
   have hpl : p = l.length := by omega
   subst hpl
   rw [List.drop_length] at h
   have hr : Region.ready .any l.toArray listed = [] := by
     cases hr : Region.ready .any l.toArray listed with
     | nil => rfl
     | cons i r =>
       exfalso
       have hi : i ∈ Region.ready .any l.toArray listed := by rw [hr]; simp
       obtain ⟨h0, o, ho, _⟩ := mem_ready.1 hi
       have hlt : i < l.length := by have := (Array.getElem?_eq_some_iff.1 ho).1; simpa using this
       rw [bL hs hlt true false, hl i hlt] at h0
       simp [hlt] at h0
   cases fuel with
   | zero => exact ⟨hr, h⟩
   | succ f => exact ⟨fun _ => h, fun i hi => by rw [hr] at hi; cases hi⟩
 | succ d ih =>
   intro p fuel listed a w hd hp hp0 hf hs hl h
   have hplt : p < l.length := by omega
   obtain ⟨f, rfl⟩ : ∃ f, fuel = f + 1 := ⟨fuel - 1, by omega⟩
   have hget : l[p]? = some l[p] := List.getElem?_eq_getElem hplt
   have honly : ∀ i, i ∈ Region.ready .any l.toArray listed → i = p := by
     intro i hi
     obtain ⟨h0, o, ho, hedge⟩ := mem_ready.1 hi
     have hlt : i < l.length := by have := (Array.getElem?_eq_some_iff.1 ho).1; simpa using this
     have h1 : ¬ i < p := by
       rw [bL hs hlt true false, hl i hlt] at h0
       simpa using h0
     rcases Nat.lt_or_ge p i with h2 | h2
     · obtain ⟨e, he, h3, h4⟩ := ja ht hlt (by omega) h2 (by simpa using ho)
       have := hedge e he h4
       rw [h3, hl p hplt] at this
       simp at this
     · omega
   have hmem : p ∈ Region.ready .any l.toArray listed := by
     refine mem_ready.2 ⟨by rw [bL hs hplt true false, hl p hplt]; simp, l[p], by simp [hget], fun e he hb => ?_⟩
     have h1 := List.all_eq_true.1 hok p (List.mem_range.2 hplt)
     simp only [hget, Bool.and_eq_true] at h1
     have h2 := List.all_eq_true.1 h1.1.2 e (Array.mem_toList_iff.2 he)
     rw [hb] at h2
     have h3 : e.on < p := ba (by simpa using h2)
     rw [hl e.on (by omega)]; simpa using h3
   refine ⟨fun hr => (by rw [hr] at hmem; cases hmem), fun i hi => ?_⟩
   have := honly i hi
   subst this
   rw [List.drop_eq_getElem_cons hplt] at h
   unfold wpOp
   rw [show l.toArray[i]? = some l[i] from by simp [hget]]
   simp only
   unfold wpList at h
   have hnext : ∀ a' w', wpList P l.toArray Q (l.drop (i + 1)) a' w' → wpAny P .any l.toArray Q f (listed.setIfInBounds i true) a' w' := by
     intro a' w' h'
     refine ih (i + 1) f _ a' w' (by omega) (by omega) (by omega) (by omega) (by simpa using hs) ?_ h'
     intro j hj
     by_cases hij : i = j
     · subst hij
       rw [Array.getD_eq_getD_getElem?]; simp [hs, hj]
     · rw [getD_set_ne false hij, hl j hj]
       by_cases h1 : j < i
       · simp [h1]; omega
       · simp [h1]; omega
   split at h
   · rename_i hw
     rw [if_pos hw]
     exact h.imp (fun h => Oper.wp_mono (fun a' w' h' => hnext a' w' h') h) id
   · rename_i hw
     rw [if_neg hw]
     exact hnext _ _ h
variable {fin : Exit → Act → World → Prop} {k : List KI} {f : Fr} {w : World}
variable {fn : Func} {R : Value → World → Prop}
theorem ae {T : TypeId} {zs cs : List Value} {s b g : Nat} {T' : TypeId} (hT : agB P T = true) (hs : Ty P T zs s b) (hb : Bk w g T' cs) (hl : cs.length = s) : (loadVar T ⟨g, 0, none⟩).run P w = .ok (.agg cs.toArray) w := by
 subst hl
 simp [loadVar, eS hT, hs.sizeOf, run_loadCells_list w ⟨g, 0, none⟩ cs hb.row]
theorem mY {a : Act} {t : Nat} {T : TypeId} {b : Addr} {v : Value} (h : fn.results = #[.cell t T]) (h1 : a.tmps.getD t undef = .pointer (some b)) (h3 : (loadVar T b).run P w = .ok v w) : (results fn a.tmps).run P w = .ok v w := by
 have h1' : (a.tmps[t]?).getD undef = .pointer (some b) := by rw [← Array.getD_eq_getD_getElem?]; exact h1
 simp [results, h, h1, h1', asAddr, h3]
theorem kj {a : Act} {t u : Nat} {T : TypeId} {b : Addr} {v : Value} (h : fn.results = #[.cell t T, .tmp u]) (h1 : a.tmps.getD t undef = .pointer (some b)) (h3 : (loadVar T b).run P w = .ok v w) : (results fn a.tmps).run P w = .ok (.tuple #[v, a.tmps.getD u undef]) w := by
 have h1' : (a.tmps[t]?).getD undef = .pointer (some b) := by rw [← Array.getD_eq_getD_getElem?]; exact h1
 simp [results, h, h1, h1', asAddr, h3]
theorem bP (hfin : ∀ a w, (a.defers = [] ∧ ∃ v, (results fn a.tmps).run P w = .ok v w ∧ R v w) → fin .ret a w ∧ fin .normal a w) {t : Nat} {T : TypeId} {b : Addr} {v : Value} (hres : fn.results = #[.cell t T]) (h1 : f.get t = some (.pointer (some b))) (h3 : (loadVar T b).run P w = .ok v w) (hR : R v w) :
   TW P fin n (.c .ret :: k) f w := fun a ha => wp_ret (by
 rw [dy]
 exact (hfin a w ⟨ha.defers, _, mY hres (ha.get t _ h1) h3, hR⟩).1)
theorem cR (hfin : ∀ a w, (a.defers = [] ∧ ∃ v, (results fn a.tmps).run P w = .ok v w ∧ R v w) → fin .ret a w ∧ fin .normal a w) {t u : Nat} {T : TypeId} {b : Addr} {v x : Value} (hres : fn.results = #[.cell t T, .tmp u]) (h1 : f.get t = some (.pointer (some b))) (h3 : (loadVar T b).run P w = .ok v w) (hx : f.get u = some x) (hR : R (.tuple #[v, x]) w) :
   TW P fin n (.c .ret :: k) f w := fun a ha => wp_ret (by
 rw [dy]
 refine (hfin a w ⟨ha.defers, _, kj hres (ha.get t _ h1) h3, ?_⟩).1
 rw [ha.get u x hx]; exact hR)
theorem nr {ops : Array Oper} {l : List Oper} {ty : TypeId} (f1 : Fr) {op : Op} {d : Nat} {pos : String} {aft : Array Edge} {j : Nat} {want c : Bool} {v : Value} (hG : Grd n ops f j want c) (hs : UndF c f1 f) (hr : c = true → Does P n f1 w op ty (fun v' w' => v' = v ∧ Keep [] w w')) (hd : Nat.blt d n = true)
    (h : ∀ w', Keep [] w w' → OW P fin n k ops l ((d, gv c v) :: f) w') : OW P fin n k ops (⟨some d, op, ty, pos, aft, some (j, want)⟩ :: l) f w := by
  refine ow_gd f1 hG hs hr hd fun v' w' h1 h2 => ?_
  cases c with
  | true => obtain ⟨rfl, h3⟩ := h1 rfl; exact h w' h3
  | false => rw [h2 rfl]; exact h w (Keep.refl _ _)
def SlL (w : World) (lo : Nat) (T : TypeId) (v : Value) (ls : List (List UInt8)) : Prop := ∃ us, us.length = ls.length ∧ RdL w us ls ∧ Own w lo T 1 v ls.length us
theorem SlL.pK {w w' : World} {lo : Nat} {T : TypeId} {v : Value} {ls : List (List UInt8)} (h : SlL w lo T v ls) (k : Keep [] w w') : SlL w' lo T v ls := by
 obtain ⟨us, h1, h2, h3⟩ := h; exact ⟨us, h1, h2.pK k, h3.pK k⟩
theorem SlL.lo {w : World} {lo lo' : Nat} {T : TypeId} {v : Value} {ls : List (List UInt8)} (h : SlL w lo T v ls) (hl : lo' ≤ lo) : SlL w lo' T v ls := by
 obtain ⟨us, h1, h2, h3⟩ := h; exact ⟨us, h1, h2, h3.lo hl⟩
theorem kP : ∀ {us : List Value}, (∀ u ∈ us, u.cells = #[u]) → us.flatMap (fun v => v.cells.toList) = us
  | [], _ => rfl
  | u :: r, h => by
    rw [List.flatMap_cons, h u (by simp), kP (fun v hv => h v (by simp [hv]))]; rfl
theorem RdL.one {w : World} {us : List Value} {ls : List (List UInt8)} (h : RdL w us ls) : ∀ u ∈ us, u.cells = #[u] := by
 intro u hu
 obtain ⟨i, hi, rfl⟩ := List.getElem_of_mem hu
 obtain ⟨u', h1, h2⟩ := h.2 i (ls[i]'(by rw [← h.1]; exact hi)) (List.getElem?_eq_getElem _)
 rw [List.getElem?_eq_getElem hi] at h1
 cases h1
 exact h2.cells
theorem oz {t e ty : TypeId} {m by_ : Nat} {parts : Array (Nat × Operand)} {xs : List Operand} {us zs : List Value} {ls : List (List UInt8)} (ht : P.underlying t = some (.slice e)) (he : Ty P e zs 1 by_)
   (hp : parts.toList = enum 0 xs) (hx : f.evs xs = some us) (hl : RdL w us ls) (hm : ls.length = m) (hlim : Nat.ble m 16777216 = true) :
   Does P n f w (.buildSlice t m parts) ty (fun v w' => SlL w' w.heap.size e v ls ∧ Keep [] w w') :=
 (gS ht he (by decide) hp hx (by rw [hl.1, hm]) (fun v hv => by rw [hl.one v hv]; rfl) (by have := Nat.le_of_ble_eq_true hlim; omega)).mono fun v w' ⟨o, _, _, k, _⟩ =>
   ⟨⟨us, hl.1, hl.pK k, by rw [kP hl.one] at o; rw [hm]; exact o⟩, k⟩
theorem SlL.vblk {w : World} {lo : Nat} {T : TypeId} {v : Value} {ls : List (List UInt8)} (h : SlL w lo T v ls) : ∀ x, x ∈ Eng.vblk v → lo ≤ x ∧ x < w.heap.size := by
 obtain ⟨us, h1, h2, h3⟩ := h; exact h3.blk
theorem nM {i : Int} (h : 0 ≤ i ∧ i < 18446744073709551616) : IntKind.u64.wrap i = i := by
 have : IntKind.u64.wrap i = i % 18446744073709551616 := by simp [IntKind.wrap, IntKind.bits, IntKind.signed]
 rw [this]; omega
theorem kA {lo : Nat} {e : TypeId} {v : Value} {j : Int} {b : UInt8} (h : Own w lo e 1 v 1 [.int .u8 j]) (hj : j = (b.toNat : Int)) : Own w lo e 1 v 1 (bv [b]) := by subst hj; exact h
end
end Go.Eng
namespace Go.Eng
open Go Go.IntWalk
def ivF (k : IntKind) (f : Nat → Int) : Nat → Nat → List Value
 | _, 0 => []
 | i, n + 1 => .int k (f i) :: ivF k f (i + 1) n
abbrev iv (k : IntKind) (n : Nat) (f : Nat → Int) : List Value := ivF k f 0 n
def upd (f : Nat → Int) (i : Nat) (v : Int) : Nat → Int := fun j => bif Nat.beq j i then v else f j
theorem cO (f : Nat → Int) (i : Nat) (v : Int) : upd f i v i = v := by simp [upd]
theorem bH (f : Nat → Int) {i j : Nat} (v : Int) (h : j ≠ i) : upd f i v j = f j := by
 unfold upd
 have : Nat.beq j i = false := by
   cases hb : Nat.beq j i with
   | false => rfl
   | true => exact absurd (Nat.eq_of_beq_eq_true hb) h
 rw [this]; rfl
def vecN (l : List Int) : Nat → Int := fun i => l.getD i 0
@[simp] theorem bh (k : IntKind) (f : Nat → Int) : ∀ (n i : Nat), (ivF k f i n).length = n
 | 0, _ => rfl
 | n + 1, i => by simp [ivF, bh k f n]
theorem lk (k : IntKind) (f : Nat → Int) : ∀ (n i j : Nat), j < n → (ivF k f i n)[j]? = some (.int k (f (i + j)))
 | 0, _, _, h => by omega
 | n + 1, i, 0, _ => rfl
 | n + 1, i, j + 1, h => by
   simp only [ivF, List.getElem?_cons_succ]
   rw [lk k f n (i + 1) j (by omega), Nat.add_assoc, Nat.add_comm 1 j]
theorem bO {k : IntKind} {f : Nat → Int} {n j : Nat} (h : j < n) : (iv k n f)[j]? = some (.int k (f j)) := by rw [iv, lk k f n 0 j h, Nat.zero_add]
theorem eL {k : IntKind} {f g : Nat → Int} : ∀ {n i : Nat}, (∀ j, i ≤ j → j < i + n → f j = g j) → ivF k f i n = ivF k g i n
 | 0, _, _ => rfl
 | n + 1, i, h => by simp only [ivF]; rw [h i (Nat.le_refl _) (by omega), eL (n := n) (i := i + 1) (fun j h1 h2 => h j (by omega) (by omega))]
theorem lj (k : IntKind) (f : Nat → Int) (v : Int) : ∀ (n i j : Nat), (ivF k f i n).set j (.int k v) = ivF k (upd f (i + j) v) i n
 | 0, _, _ => rfl
 | n + 1, i, 0 => by
   simp only [ivF, List.set_cons_zero, Nat.add_zero]
   rw [cO]
   exact congrArg _ (eL (g := upd f i v) (fun j h1 h2 => (bH f v (by omega)).symm))
 | n + 1, i, j + 1 => by
   simp only [ivF, List.set_cons_succ]
   rw [bH f v (by omega), lj k f v n (i + 1) j, Nat.add_assoc, Nat.add_comm 1 j]
theorem jR {k : IntKind} {f : Nat → Int} {n j : Nat} {v : Int} : (iv k n f).set j (.int k v) = iv k n (upd f j v) := by rw [iv, lj, Nat.zero_add]
theorem ad {k : IntKind} {f : Nat → Int} : ∀ {n i : Nat}, ∀ u ∈ ivF k f i n, u.oneCell' = true
 | 0, _, u, h => by cases h
 | n + 1, i, u, h => by
   simp only [ivF, List.mem_cons] at h
   rcases h with rfl | h
   · rfl
   · exact ad u h
theorem cG (k : IntKind) (x : Int) : ∀ (n i : Nat), ivF k (fun _ => x) i n = List.replicate n (.int k x)
  | 0, _ => rfl
  | n + 1, i => by rw [ivF, cG k x n, List.replicate_succ]
def In (x lo hi : Int) : Prop := lo ≤ x ∧ x ≤ hi
def Le (a b : Int) : Prop := a ≤ b
instance (a b : Int) : Decidable (Le a b) := inferInstanceAs (Decidable (a ≤ b))
instance (x lo hi : Int) : Decidable (In x lo hi) := inferInstanceAs (Decidable (lo ≤ x ∧ x ≤ hi))
def Eqn (z e : Int) : Prop := z = e
def chk (lo hi a b : Int) : Bool := decide (lo ≤ a) && decide (b ≤ hi)
theorem chk_le {lo hi a b : Int} (h : chk lo hi a b = true) : lo ≤ a ∧ b ≤ hi := by simpa [chk] using h
theorem In.wk {x a b lo hi : Int} (h : In x a b) (hc : chk lo hi a b = true) : In x lo hi := by
 have := chk_le hc; unfold In at *; omega
def kmin : IntKind → Int
 | .i8 => -128 | .i16 => -32768 | .i32 => -2147483648 | .i64 => -9223372036854775808
 | _ => 0
def kmax : IntKind → Int
 | .i8 => 127 | .i16 => 32767 | .i32 => 2147483647 | .i64 => 9223372036854775807
 | .u8 => 255 | .u16 => 65535 | .u32 => 4294967295 | .u64 => 18446744073709551615
def kmod : IntKind → Int
 | .i8 | .u8 => 256 | .i16 | .u16 => 65536 | .i32 | .u32 => 4294967296 | .i64 | .u64 => 18446744073709551616
def fits (k : IntKind) (a b : Int) : Bool := decide (kmin k ≤ a) && decide (b ≤ kmax k)
theorem am {k : IntKind} {x a b : Int} (h : In x a b) (hf : fits k a b = true) : k.wrap x = x := by
 simp only [fits, Bool.and_eq_true, decide_eq_true_eq] at hf
 unfold In at h
 cases k <;> simp only [kmin, kmax] at hf
 · exact IntWalk.i8_in _ (by omega)
 · exact IntWalk.i16_in _ (by omega)
 · exact IntWalk.i32_in _ (by omega)
 · exact IntWalk.i64_in _ (by omega)
 · exact IntWalk.u8_in _ (by omega)
 · exact IntWalk.u16_in _ (by omega)
 · exact IntWalk.u32_in _ (by omega)
 · exact IntWalk.u64_in _ (by omega)
def uns : IntKind → Bool
 | .u8 | .u16 | .u32 | .u64 => true
 | _ => false
theorem cH {k : IntKind} (hk : uns k = true) (x : Int) : k.wrap x = x % kmod k := by
 cases k <;> first | (exact absurd hk (by decide)) | (simp [IntKind.wrap, IntKind.bits, IntKind.signed, kmod])
theorem in_bif (b : Bool) : In (bif b then 1 else 0) 0 1 := by cases b <;> decide
theorem dG (c : Int) : In c c c := ⟨Int.le_refl _, Int.le_refl _⟩
theorem al {x y a b c d : Int} (hx : In x a b) (hy : In y c d) : In (x + y) (a + c) (b + d) := by unfold In at *; omega
theorem eI {x y a b c d : Int} (hx : In x a b) (hy : In y c d) : In (x - y) (a - d) (b - c) := by unfold In at *; omega
theorem bZ {x y a b c d : Int} (hx : In x a b) (hy : In y c d) (ha : 0 ≤ a) (hc : 0 ≤ c) : In (x * y) (a * c) (b * d) := by
 unfold In at *
 exact ⟨Int.mul_le_mul hx.1 hy.1 hc (by omega), Int.mul_le_mul hx.2 hy.2 (by omega) (by omega)⟩
theorem cn {x a b c : Int} (hx : In x a b) (hc : 0 ≤ c) : In (x * c) (a * c) (b * c) := by
 unfold In at *
 exact ⟨Int.mul_le_mul_of_nonneg_right hx.1 hc, Int.mul_le_mul_of_nonneg_right hx.2 hc⟩
theorem co {x a b c : Int} (hx : In x a b) (hc : 0 ≤ c) : In (c * x) (c * a) (c * b) := by
 unfold In at *
 exact ⟨Int.mul_le_mul_of_nonneg_left hx.1 hc, Int.mul_le_mul_of_nonneg_left hx.2 hc⟩
theorem bB {x a b m : Int} (hx : In x a b) (hm : 0 < m) : In (x / m) (a / m) (b / m) := by
 unfold In at *
 exact ⟨Int.ediv_le_ediv hm hx.1, Int.ediv_le_ediv hm hx.2⟩
theorem au (x : Int) {m : Int} (hm : 0 < m) : In (x % m) 0 (m - 1) := by
 have := Int.emod_nonneg x (Int.ne_of_gt hm); have := Int.emod_lt_of_pos x hm
 unfold In; omega
theorem fP {k : IntKind} (hk : uns k = true) : ∀ n : Int, 0 ≤ n → n < 2 ^ k.bits → k.wrap n = n := by
 intro n h0 h1
 rw [cH hk]
 have : kmod k = 2 ^ k.bits := by cases k <;> first | (exact absurd hk (by decide)) | rfl
 rw [this]; exact Int.emod_eq_of_lt h0 h1
theorem mA {k : IntKind} (hk : uns k = true) (op : BinOp) (x y : Int) : In (bits op k x y) 0 (kmax k) := by
 unfold bits
 simp only [cH hk]
 have h : kmax k = kmod k - 1 := by cases k <;> first | (exact absurd hk (by decide)) | rfl
 rw [h]
 exact au _ (by cases k <;> decide)
def pw2 (s : Nat) : Int → Bool
 | .ofNat m => Nat.beq m (2 ^ s)
 | .negSucc _ => false
theorem go {s : Nat} {m : Int} (h : pw2 s m = true) : m = 2 ^ s := by
 cases m with
 | ofNat m =>
   have := Nat.eq_of_beq_eq_true h
   subst this
   simp
 | negSucc m => cases h
theorem bd {k : IntKind} {x a b : Int} (s : Nat) {c m : Int} (hx : In x a b) (hf : fits k a b = true) (hk : uns k = true) (h0 : decide (0 ≤ a) = true) (hs : Nat.ble s k.bits = true) (hc : pw2 s (c + 1) = true) (hm0 : pw2 s m = true) : bits .and k x c = x % m := by
 have hm := go hm0
 have hc := go hc
 subst hm
 obtain rfl : c = 2 ^ s - 1 := by omega
 have hb : x < 2 ^ k.bits := by
   have : kmax k + 1 = 2 ^ k.bits := by cases k <;> first | (exact absurd hk (by decide)) | rfl
   simp only [fits, Bool.and_eq_true, decide_eq_true_eq] at hf
   unfold In at hx; omega
 have h0' := of_decide_eq_true h0
 exact bits_mask k k.bits (Nat.le_refl _) (fP hk) s (Nat.le_of_ble_eq_true hs) x (by unfold In at hx; omega) hb
theorem em {k : IntKind} {x y a b c d : Int} (s : Nat) {m : Int} (hx : In x a b) (hfx : fits k a b = true) (hy : In y c d) (hk : uns k = true) (h0 : decide (0 ≤ a) = true) (h1 : decide (0 ≤ c) = true) (hm0 : pw2 s m = true) (hxm : x % m = 0) (hd : decide (d < m) = true) (hs : Nat.ble s k.bits = true) : bits .or k x y = x + y := by
 have hm := go hm0
 subst hm
 have hkm : kmax k + 1 = 2 ^ k.bits := by cases k <;> first | (exact absurd hk (by decide)) | rfl
 simp only [fits, Bool.and_eq_true, decide_eq_true_eq] at hfx
 have h0' := of_decide_eq_true h0
 have h1' := of_decide_eq_true h1
 have hd' := of_decide_eq_true hd
 unfold In at hx hy
 have hle : (2 : Int) ^ s ≤ 2 ^ k.bits := by
   have := Nat.pow_le_pow_right (show 0 < 2 by decide) (Nat.le_of_ble_eq_true hs)
   exact_mod_cast this
 exact bits_join k k.bits (Nat.le_refl _) (fP hk) s x y (by omega) hxm (by omega) (by omega) (by omega) (by omega)
theorem fA (k : IntKind) (x y : Int) : bits .or k x y = bits .or k y x := by simp only [bits, BitVec.or_comm]
theorem bq {k : IntKind} {x y a b c d : Int} (s : Nat) {m : Int} (hx : In x a b) (hfx : fits k a b = true) (hy : In y c d) (hk : uns k = true) (h0 : decide (0 ≤ a) = true) (h1 : decide (0 ≤ c) = true) (hm0 : pw2 s m = true) (hxm : x % m = 0) (hd : decide (d < m) = true) (hs : Nat.ble s k.bits = true) : bits .or k y x = y + x := by
 rw [fA, em s hx hfx hy hk h0 h1 hm0 hxm hd hs, Int.add_comm]
theorem bN (a : Int) {m M : Int} (h : M % m = 0) : a * m % M % m = 0 := by
 rw [Int.emod_emod_of_dvd _ (Int.dvd_of_emod_eq_zero h), Int.mul_emod_left]
theorem cN {x e m : Int} (h : x = e) (he : e % m = 0) : x % m = 0 := by rw [h]; exact he
section
variable {P : Program} {n : Nat} {f : Fr} {w : World} {ty : TypeId} {fin : Exit → Act → World → Prop} {k : List KI} {ops : Array Oper} {l : List Oper}
theorem ag {op : Op} {d : Nat} {pos : String} {aft : Array Edge} {kd : IntKind} {e e' lo hi : Int} (hr : Gives P n f w op ty (.int kd e) w) (he : e = e') (hb : In e' lo hi) (hd : Nat.blt d n = true)
   (h : ∀ z, Eqn z e' → In z lo hi → OW P fin n k ops l ((d, .int kd z) :: f) w) : OW P fin n k ops (⟨some d, op, ty, pos, aft, none⟩ :: l) f w := by
 subst he; exact aU hr hd (h _ rfl hb)
theorem bl {k k' : IntKind} {t u : TypeId} {x y : Operand} {i j m : Int} (hx : f.ev x = some (.int k i)) (hy : f.ev y = some (.int k' j)) (h : 0 ≤ j ∧ j ≤ k.bits) (hm : pw2 j.toNat m = true) :
   Gives P n f w (.binOp .shr t x y u) ty (.int k (i / m)) w := by have := go hm; subst this; exact fa hx hy h
theorem dB {k k' : IntKind} {t u : TypeId} {x y : Operand} {i j m : Int} (hx : f.ev x = some (.int k i)) (hy : f.ev y = some (.int k' j)) (h : 0 ≤ j ∧ j ≤ k.bits) (hm : pw2 j.toNat m = true) :
   Gives P n f w (.binOp .shl t x y u) ty (.int k (k.wrap (i * m))) w := by have := go hm; subst this; exact ip hx hy h
theorem aa {x y : Operand} {t e : TypeId} {m : Nat} {zs : List Value} {s b : Nat} {blk o : Nat} {kd : IntKind} {i : Int} (ht : P.underlying t = some (.array m e)) (he : Ty P e zs s b)
   (hx : f.ev x = some (.pointer (some ⟨blk, o, none⟩))) (hy : f.ev y = some (.int kd i)) (h : 0 ≤ i ∧ i < m) :
   Gives P n f w (.indexAddr t x y) ty (.pointer (some ⟨blk, o + i.toNat * s, none⟩)) w := by
 intro a ha dst pos aft g
 simp [execOp, ha.ev hx, ha.ev hy, Instr.indexAt, asIntOf, run_underlying ht, he.sizeOf, h.1, h.2, Instr.sureAddr, Addr.add_lit]
theorem ez {x y : Operand} {t e : TypeId} {m : Nat} {zs cs : List Value} {b : Nat} {kd : IntKind} {i : Int} {u : Value} (ht : P.underlying t = some (.array m e)) (he : Ty P e zs 1 b) (hsc : scB P e = true)
   (hx : f.ev x = some (.agg cs.toArray)) (hy : f.ev y = some (.int kd i)) (h : 0 ≤ i ∧ i < m) (hc : cs[i.toNat]? = some u) :
   Gives P n f w (.index t x y) ty u w := by
 intro a ha dst pos aft g
 simp [execOp, ha.ev hx, ha.ev hy, Instr.index, asIntOf, run_underlying ht, he.sizeOf, h.1, h.2, part, i7 hsc, hc]
theorem iC {x y : Operand} {t e : TypeId} {m : Nat} {zs cs cs' : List Value} {s b : Nat} {kd : IntKind} {i : Int} (ht : P.underlying t = some (.array m e)) (he : Ty P e zs s b) (hag : agB P e = true)
   (hx : f.ev x = some (.agg cs.toArray)) (hy : f.ev y = some (.int kd i)) (h : 0 ≤ i ∧ i < m) (hc : (cs.drop (i.toNat * s)).take s = cs') :
   Gives P n f w (.index t x y) ty (.agg cs'.toArray) w := by
 intro a ha dst pos aft g
 subst hc
 simp [execOp, ha.ev hx, ha.ev hy, Instr.index, asIntOf, run_underlying ht, he.sizeOf, h.1, h.2, part, eS hag, List.extract_eq_take_drop]
end
end Go.Eng
namespace Go.Eng
open Go
theorem iv4 {w : World} {b : Nat} {T : TypeId} {k : IntKind} {g : Nat → Int} (h : Bk w b T (iv k 4 g)) : Bk w b T [.int k (g 0), .int k (g 1), .int k (g 2), .int k (g 3)] := h
theorem cv {w : World} {b : Nat} {T : TypeId} {k : IntKind} {g : Nat → Int} (h : Bk w b T (iv k 5 g)) : Bk w b T [.int k (g 0), .int k (g 1), .int k (g 2), .int k (g 3), .int k (g 4)] := h
theorem iv8 {w : World} {b : Nat} {T : TypeId} {k : IntKind} {g : Nat → Int} (h : Bk w b T (iv k 8 g)) : Bk w b T [.int k (g 0), .int k (g 1), .int k (g 2), .int k (g 3), .int k (g 4), .int k (g 5), .int k (g 6), .int k (g 7)] := h
theorem et {w : World} {b : Nat} {T : TypeId} {k : IntKind} {g : Nat → Int} (h : Bk w b T (iv k 20 g)) : Bk w b T [.int k (g 0), .int k (g 1), .int k (g 2), .int k (g 3), .int k (g 4), .int k (g 5), .int k (g 6), .int k (g 7), .int k (g 8), .int k (g 9), .int k (g 10), .int k (g 11), .int k (g 12), .int k (g 13), .int k (g 14), .int k (g 15), .int k (g 16), .int k (g 17), .int k (g 18), .int k (g 19)] := h
end Go.Eng
namespace Go.Eng
open Go Go.IntWalk
section
variable {P : Program} {n : Nat} {f : Fr} {w : World} {ty : TypeId} {fin : Exit → Act → World → Prop} {k : List KI} {ops : Array Oper} {tl l : List Oper}
def SW (P : Program) (fin : Exit → Act → World → Prop) (n : Nat) (k : List KI) (ops : Array Oper) (tl : List Oper) (l : List Oper) (f : Fr) (w : World) : Prop :=
 ∀ a, Kn n f a → wpStill P ops w (fun a' => wpList P ops (KQ P fin k) tl a' w) l a
theorem bf {id : Nat} {l : List Oper} (m : Nat) (hm : P.follows .mixedOrders = true) (hB : Region.lexTailB .any l.toArray m = true)
   (h : ∀ w1, Keep [] w w1 → SW P fin n k l.toArray (l.drop m) (l.take m) f w1) : TW P fin n (.c (.region id l.toArray true) :: k) f w :=
 fun a ha => wp_region_still_tail m hm hB (h _ (cj w) a ha)
theorem dm {id : Nat} {l : List Oper} (hm : P.follows .mixedOrders = true) (hB : Region.lexB .any l.toArray = true)
   (h : ∀ w1, Keep [] w w1 → SW P fin n k l.toArray [] l f w1) : TW P fin n (.c (.region id l.toArray true) :: k) f w :=
 fun a ha => wp_region_still_lit hm hB (h _ (cj w) a ha)
theorem cB (h : OW P fin n k ops tl f w) : SW P fin n k ops tl [] f w := fun a ha => wpStill_nil (h a ha)
theorem ac {op : Op} {d : Nat} {pos : String} {aft : Array Edge} {v : Value} (hr : Gives P n f w op ty v w) (hd : Nat.blt d n = true)
   (h : SW P fin n k ops tl l ((d, v) :: f) w) : SW P fin n k ops tl (⟨some d, op, ty, pos, aft, none⟩ :: l) f w := by
 intro a ha
 refine wpStill_step fun K hK => ?_
 rw [if_pos (by simp [Region.wanted])]
 unfold Oper.still
 rw [hr a ha, Oper.stillUpon_value]
 exact hK _ (h _ (ha.put (ba hd) v))
theorem bk {op : Op} {d : Nat} {pos : String} {aft : Array Edge} {kd : IntKind} {e e' lo hi : Int} (hr : Gives P n f w op ty (.int kd e) w) (he : e = e') (hb : In e' lo hi) (hd : Nat.blt d n = true)
   (h : ∀ z, Eqn z e' → In z lo hi → SW P fin n k ops tl l ((d, .int kd z) :: f) w) : SW P fin n k ops tl (⟨some d, op, ty, pos, aft, none⟩ :: l) f w := by
 subst he; exact ac hr hd (h _ rfl hb)
theorem sw_gz {op : Op} {d : Nat} {pos : String} {aft : Array Edge} {kd : IntKind} {e e' : Int} (hr : Gives P n f w op ty (.int kd e) w) (he : e = e') (hd : Nat.blt d n = true)
   (h : ∀ z, Eqn z e' → SW P fin n k ops tl l ((d, .int kd z) :: f) w) : SW P fin n k ops tl (⟨some d, op, ty, pos, aft, none⟩ :: l) f w := by
 subst he; exact ac hr hd (h _ rfl)
theorem kb {i : FuncId} {args : Array Operand} {ats : Array TypeId} {vs : List Value} {v : Value} {dst : Option Tmp} {pos : String} {aft : Array Edge} {g : Option (Nat × Bool)} {a : Act} {K : Act → Prop} (ha : Kn n f a)
   (hx : f.evs args.toList = some vs) (hc : Rets P i vs w (fun v' w' => v' = v ∧ w = w')) (h : K (a.put dst v)) : Oper.still P ⟨dst, .call { callee := .value (.func i), args := args, argTypes := ats }, ty, pos, aft, g⟩ a w K := by
 obtain ⟨⟨fn, hf, hb, hnm⟩, hcalls⟩ := hc
 have hb' : fn.body.isNone = false := by cases h : fn.body <;> simp_all
 have hm : args.map a.eval = vs.toArray := by rw [← Array.toList_inj]; simp [ha.evs hx]
 have hr : (execOp a.eval ⟨dst, .call { callee := .value (.func i), args := args, argTypes := ats }, ty, pos, aft, g⟩).run P w = .ok (.enter i vs.toArray) w := by
   have hcf : (callFunc i vs.toArray).run P w = .ok (.enter i vs.toArray) w := by
     simp only [callFunc, Sem.run_bind, run_program, Result.andThen_ok, hf, hnm, Bool.false_eq_true, if_false, hb', Sem.run_pure]
   simp [execOp, resolve, Deferred.ofValue, Act.eval, invoke, hm, hcf]
 unfold Oper.still
 rw [hr]
 exact ⟨rfl, v, Calls.mono hcalls fun e w' ⟨v', he, hv, hw⟩ => ⟨by rw [he, hv], hw.symm⟩, h⟩
theorem sw_call {d : Nat} {pos : String} {aft : Array Edge} {i : FuncId} {args : Array Operand} {ats : Array TypeId} {vs : List Value} {v : Value} (hx : f.evs args.toList = some vs) (hc : Rets P i vs w (fun v' w' => v' = v ∧ w = w')) (hd : Nat.blt d n = true)
    (h : SW P fin n k ops tl l ((d, v) :: f) w) : SW P fin n k ops tl (⟨some d, .call { callee := .value (.func i), args := args, argTypes := ats }, ty, pos, aft, none⟩ :: l) f w := by
  intro a ha
  refine wpStill_step fun K hK => ?_
  rw [if_pos (by simp [Region.wanted])]
  exact kb ha hx hc (hK _ (h _ (ha.put (ba hd) v)))
end
end Go.Eng
namespace Go.Eng
open Go Go.IntWalk
section
variable {P : Program} {n : Nat}
def PStep (P : Program) (n : Nat) (ops : Array Oper) (o : Oper) (f1 : Fr) (w : World) (R : Value → World → Prop) : Prop :=
 ∀ a, Kn n f1 a → ∀ (K : Act → World → Prop) (Q : Exit → Act → World → Prop), (∀ v w', R v w' → K (a.put o.dst v) w') →
   (Region.wanted o (yielded ops a.tmps) = true → Oper.wp P o a w K Q) ∧ (Region.wanted o (yielded ops a.tmps) = false → K (a.put o.dst undef) w)
def depB (l : List Oper) (i j : Nat) : Bool := match l[i]? with
 | none => false
 | some o => o.after.toList.any fun e => e.on == j && Region.binds .any e
def slotsOk (l : List Oper) (p i : Nat) (f1 : Fr) : Bool :=
 f1.all fun q => (List.range p).all (fun j => !hasDst l j || dstOf l j != q.1) || (List.range p).any (fun j => depB l i j && (hasDst l j && dstOf l j == q.1))
def eager (l : List Oper) (cb : Nat → Bool) : List Nat → Bool
 | [] => true
 | c :: r => !r.contains c && (!cb c || r.all fun i => (c :: r).any fun j => depB l i j) && eager l cb r
def planOk (n : Nat) (l : List Oper) (p : Nat) (plan : List Nat) (cb : Nat → Bool) : Bool :=
 drawOk n l && tailOk l p && plan.all (fun i => Nat.blt i p && hasDst l i) && (List.range p).all (fun i => plan.contains i) && eager l cb plan
def PW (P : Program) (n : Nat) (l : List Oper) (p : Nat) (T : List Nat) (cb : Nat → Bool) (Fin : Fr → World → Prop) : List Nat → Fr → World → Prop
 | [], f, w => Fin f w
 | i :: r, f, w => ∃ o f1, l[i]? = some o ∧ Fr.sub f1 f ∧ slotsOk l p i f1 = true ∧
   ((cb i = true ∧ PStep P n l.toArray o f1 w (fun v w' => Keep T w w' ∧ PW P n l p T cb Fin r ((dstOf l i, v) :: f) w')) ∨
    (cb i = false ∧ ∃ v, (∀ w', Keep T w w' → PStep P n l.toArray o f1 w' (fun v' w'' => v' = v ∧ w'' = w')) ∧ PW P n l p T cb Fin r ((dstOf l i, v) :: f) w))
theorem PStep.mono {ops : Array Oper} {o : Oper} {f1 : Fr} {w : World} {R R' : Value → World → Prop} (h : PStep P n ops o f1 w R) (hr : ∀ v w', R v w' → R' v w') : PStep P n ops o f1 w R' :=
 fun a ha K Q hK => h a ha K Q (fun v w' hv => hK v w' (hr v w' hv))
theorem jB : ∀ {f1 f : Fr}, Fr.sub f1 f → ∀ t u, f1.get t = some u → f.get t = some u
 | [], _, _, t, u, h => by cases h
 | (k, v) :: r, f, ⟨h1, h2⟩, t, u, h => by
   simp only [Fr.get] at h
   by_cases e : Nat.beq k t = true
   · rw [e] at h
     simp only [cond_true, Option.some.injEq] at h
     have e' : k = t := Nat.eq_of_beq_eq_true e
     subst e' h; exact h1
   · have e' : Nat.beq k t = false := eq_false_of_ne_true e
     rw [e'] at h
     exact jB h2 t u h
theorem jT : ∀ {f1 : Fr} {t : Nat} {u : Value}, f1.get t = some u → ∃ q, q ∈ f1 ∧ q.1 = t
 | [], t, u, h => by cases h
 | (k, v) :: r, t, u, h => by
   simp only [Fr.get] at h
   by_cases e : Nat.beq k t = true
   · exact ⟨(k, v), by simp, Nat.eq_of_beq_eq_true e⟩
   · have e' : Nat.beq k t = false := eq_false_of_ne_true e
     rw [e'] at h
     obtain ⟨q, hq, hq'⟩ := jT (f1 := r) h
     exact ⟨q, by simp [hq], hq'⟩
theorem lq {l : List Oper} {vs : Nat → Value} {f0 : Fr} : ∀ {pre : List Nat} {t : Nat} {u : Value}, (depFr l vs pre ++ f0).get t = some u → (∃ j, j ∈ pre ∧ dstOf l j = t ∧ vs j = u) ∨ f0.get t = some u
 | [], t, u, h => .inr h
 | j :: r, t, u, h => by
   simp only [depFr, List.cons_append, Fr.get] at h
   by_cases e : Nat.beq (dstOf l j) t = true
   · rw [e] at h
     simp only [cond_true, Option.some.injEq] at h
     exact .inl ⟨j, by simp, Nat.eq_of_beq_eq_true e, h⟩
   · have e' : Nat.beq (dstOf l j) t = false := eq_false_of_ne_true e
     rw [e'] at h
     rcases lq (pre := r) h with ⟨i, hi, h1, h2⟩ | h1
     · exact .inl ⟨i, by simp [hi], h1, h2⟩
     · exact .inr h1
theorem cJ {l : List Oper} {cb : Nat → Bool} : ∀ {pre rest : List Nat}, eager l cb (pre ++ rest) = true → eager l cb rest = true ∧ (∀ i, i ∈ pre → i ∉ rest)
 | [], _, h => ⟨h, fun i hi => by cases hi⟩
 | c :: r, rest, h => by
   simp only [List.cons_append, eager, Bool.and_eq_true] at h
   obtain ⟨h1, h2⟩ := cJ (pre := r) h.2
   refine ⟨h1, fun i hi hm => ?_⟩
   rcases List.mem_cons.1 hi with rfl | hi
   · have := h.1.1
     simp [hm] at this
   · exact h2 i hi hm
theorem cP {l : List Oper} (hok : drawOk n l = true) {i j : Nat} (hi : i < l.length) (hj : j < l.length) (hdi : hasDst l i = true) (hdj : hasDst l j = true) (he : dstOf l i = dstOf l j) : i = j := by
 have h1 := List.all_eq_true.1 hok i (List.mem_range.2 hi)
 have hget : l[i]? = some l[i] := List.getElem?_eq_getElem hi
 simp only [hget, Bool.and_eq_true] at h1
 have h2 := h1.2
 have hs : l[i].dst.isSome = true := by
   unfold hasDst at hdi; rw [hget] at hdi; simpa using hdi
 rw [hs, Bool.not_true, Bool.false_or] at h2
 have h3 := List.all_eq_true.1 h2 j (List.mem_range.2 hj)
 simp only [Bool.or_eq_true, beq_iff_eq, bne_iff_ne, ne_eq, Bool.not_eq_true'] at h3
 rcases h3 with (h3 | h3) | h3
 · exact h3
 · exact absurd he h3
 · rw [hdj] at h3; cases h3
section
variable {l : List Oper} {p : Nat} {T : List Nat} {cb : Nat → Bool} {Fin : Fr → World → Prop} {f0 : Fr}
def Lk (l : List Oper) (f0 : Fr) (pre : List Nat) (vs : Nat → Value) (i : Nat) (f1 : Fr) : Prop :=
 ∀ t u, f1.get t = some u → (∃ j, j ∈ pre ∧ depB l i j = true ∧ dstOf l j = t ∧ vs j = u) ∨ f0.get t = some u
theorem lk_of {n : Nat} (hok : drawOk n l = true) (hpl : p ≤ l.length) {pre : List Nat} {vs : Nat → Value} {i : Nat} {f1 : Fr} (hpre : ∀ j, j ∈ pre → j < p ∧ hasDst l j = true) (hs : Fr.sub f1 (depFr l vs pre.reverse ++ f0)) (h : slotsOk l p i f1 = true) : Lk l f0 pre vs i f1 := by
 intro t u ht
 rcases lq (jB hs t u ht) with ⟨j, hj, h1, h2⟩ | h1
 · have hj' : j ∈ pre := by simpa using hj
   obtain ⟨q, hq, hq'⟩ := jT ht
   have h3 := List.all_eq_true.1 h q hq
   simp only [Bool.or_eq_true] at h3
   rcases h3 with h3 | h3
   · have h4 := List.all_eq_true.1 h3 j (List.mem_range.2 (hpre j hj').1)
     rw [(hpre j hj').2, hq'] at h4
     simp [h1] at h4
   · obtain ⟨j', hj1, h5⟩ := List.any_eq_true.1 h3
     simp only [Bool.and_eq_true, beq_iff_eq] at h5
     have hlt := List.mem_range.1 hj1
     have : j = j' := cP hok (Nat.lt_of_lt_of_le (hpre j hj').1 hpl) (Nat.lt_of_lt_of_le hlt hpl) (hpre j hj').2 h5.2.1 (by rw [h1, h5.2.2, hq'])
     subst this
     exact .inl ⟨j, hj', h5.1, h1, h2⟩
 · exact .inr h1
def RdOk (P : Program) (n : Nat) (l : List Oper) (T : List Nat) (f0 : Fr) (pre : List Nat) (vs : Nat → Value) (w : World) (i : Nat) : Prop :=
 ∃ o f1, l[i]? = some o ∧ Lk l f0 pre vs i f1 ∧ ∀ w', Keep T w w' → PStep P n l.toArray o f1 w' (fun v' w'' => v' = vs i ∧ w'' = w')
theorem Lk.mono {pre pre' : List Nat} {vs vs' : Nat → Value} {i : Nat} {f1 : Fr} (h : Lk l f0 pre vs i f1) (hm : ∀ j, j ∈ pre → j ∈ pre' ∧ vs' j = vs j) : Lk l f0 pre' vs' i f1 := by
 intro t u ht
 rcases h t u ht with ⟨j, h1, h2, h3, h4⟩ | h1
 · exact .inl ⟨j, (hm j h1).1, h2, h3, by rw [(hm j h1).2, h4]⟩
 · exact .inr h1
theorem RdOk.mono {pre pre' : List Nat} {vs vs' : Nat → Value} {w w' : World} {i : Nat} (h : RdOk P n l T f0 pre vs w i) (hi : i ∈ pre) (hm : ∀ j, j ∈ pre → j ∈ pre' ∧ vs' j = vs j) (hk : Keep T w w') : RdOk P n l T f0 pre' vs' w' i := by
 obtain ⟨o, f1, h1, h2, h3⟩ := h
 refine ⟨o, f1, h1, h2.mono hm, fun w2 hk2 => ?_⟩
 rw [(hm i hi).2]
 exact h3 w2 (hk.trans hk2)
def setV (vs : Nat → Value) (i : Nat) (v : Value) : Nat → Value := fun j => bif Nat.beq j i then v else vs j
theorem ci (vs : Nat → Value) (i : Nat) (v : Value) : setV vs i v i = v := by simp [setV]
theorem dJ (vs : Nat → Value) {i j : Nat} (v : Value) (h : j ≠ i) : setV vs i v j = vs j := by
 unfold setV
 cases hb : Nat.beq j i with
 | false => rfl
 | true => exact absurd (Nat.eq_of_beq_eq_true hb) h
theorem fL {vs : Nat → Value} {i : Nat} {v : Value} : ∀ {pre : List Nat}, i ∉ pre → depFr l (setV vs i v) pre = depFr l vs pre
 | [], _ => rfl
 | j :: r, h => by
   simp only [depFr]
   rw [dJ vs v (fun e => h (by simp [e])), fL (pre := r) (fun hm => h (by simp [hm]))]
theorem absorb {n : Nat} (hok : drawOk n l = true) (hpl : p ≤ l.length) : ∀ (rest pre : List Nat) (vs : Nat → Value) (w : World), eager l cb (pre ++ rest) = true → (∀ j, j ∈ pre ++ rest → j < p ∧ hasDst l j = true) → PW P n l p T cb Fin rest (depFr l vs pre.reverse ++ f0) w →
   (∀ i, i ∈ pre → cb i = false → RdOk P n l T f0 pre vs w i) → ∃ pre' rest' vs', pre ++ rest = pre' ++ rest' ∧ (∀ i, i ∈ pre → i ∈ pre' ∧ vs' i = vs i) ∧ (∀ i, i ∈ pre' → i ∈ pre ∨ cb i = false) ∧ (∀ c r, rest' = c :: r → cb c = true) ∧
     PW P n l p T cb Fin rest' (depFr l vs' pre'.reverse ++ f0) w ∧ ∀ i, i ∈ pre' → cb i = false → RdOk P n l T f0 pre' vs' w i
 | [], pre, vs, w, _, _, h, hr => ⟨pre, [], vs, rfl, fun i hi => ⟨hi, rfl⟩, fun i hi => .inl hi, (fun c r h => by cases h), h, hr⟩
 | i :: r, pre, vs, w, he, hb, h, hr => by
   have h0 := h
   unfold PW at h
   obtain ⟨o, f1, h1, h2, h3, h4⟩ := h
   rcases h4 with ⟨hc, _⟩ | ⟨hc, v, h5, h6⟩
   · exact ⟨pre, i :: r, vs, rfl, fun i hi => ⟨hi, rfl⟩, fun i hi => .inl hi, (fun c r h => by cases h; exact hc), h0, hr⟩
   · have hni : i ∉ pre := fun hm => (cJ he).2 i hm (by simp)
     have hlk := lk_of (f0 := f0) hok hpl (fun j hj => hb j (by simp [hj])) h2 h3
     have hm : ∀ j, j ∈ pre → j ∈ pre ++ [i] ∧ setV vs i v j = vs j := fun j hj => ⟨by simp [hj], dJ vs v (fun e => hni (e ▸ hj))⟩
     have hnr : i ∉ pre.reverse := by simpa using hni
     obtain ⟨pre', rest', vs', k1, k2, k3, k4, k5, k6⟩ := absorb hok hpl r (pre ++ [i]) (setV vs i v) w (by simpa using he) (by simpa using hb)
       (by rw [List.reverse_append, List.reverse_singleton, List.singleton_append, depFr, ci, fL hnr]; exact h6)
       (fun j hj hcj => by
         rcases List.mem_append.1 hj with h | h
         · exact (hr j h hcj).mono h hm (Keep.refl _ _)
         · rw [List.mem_singleton] at h
           subst h
           refine ⟨o, f1, h1, hlk.mono hm, fun w2 hk2 => ?_⟩
           rw [ci]; exact h5 w2 hk2)
     refine ⟨pre', rest', vs', by simpa using k1, fun j hj => ?_, fun j hj => ?_, k4, k5, k6⟩
     · obtain ⟨q1, q2⟩ := k2 j (hm j hj).1
       exact ⟨q1, q2.trans (hm j hj).2⟩
     · rcases k3 j hj with h | h
       · rcases List.mem_append.1 h with h | h
         · exact .inl h
         · rw [List.mem_singleton] at h; subst h; exact .inr hc
       · exact .inr h
theorem kn_lk {pre : List Nat} {vs : Nat → Value} {i : Nat} {f1 : Fr} {a : Act} (hk : Kn n f0 a) (hl : Lk l f0 pre vs i f1) (hd : ∀ j, depB l i j = true → j ∈ pre → a.tmps.getD (dstOf l j) undef = vs j) : Kn n f1 a := by
 refine ⟨hk.size, hk.defers, fun t u ht => ?_⟩
 rcases hl t u ht with ⟨j, h1, h2, h3, h4⟩ | h1
 · rw [← h3, ← h4]; exact hd j h2 h1
 · exact hk.get t u h1
end
variable {fin : Exit → Act → World → Prop} {k : List KI} {f : Fr} {w : World}
theorem bz {id : Nat} {l : List Oper} (p : Nat) (plan : List Nat) (cs : List Nat) (T : List Nat) (hm : P.follows .mixedOrders = true) (f0 : Fr) (hf : Fr.sub f0 f) (hok : planOk n l p plan (fun i => cs.contains i) = true) (hfree0 : freeOk (l.take p) f0 = true)
    (h : ∀ w1, Keep [] w w1 → PW P n l p T (fun i => cs.contains i) (fun f' w' => OW P fin n k l.toArray (l.drop p) f' w') plan f0 w1) :
    TW P fin n (.c (.region id l.toArray true) :: k) f w := by
  intro a ha
  simp only [KQ]
  have ha0 := ha.sub hf
  simp only [planOk, Bool.and_eq_true] at hok
  obtain ⟨⟨⟨⟨hdr, ht⟩, hall⟩, hcov⟩, heag⟩ := hok
  have hpl : p ≤ l.length := by simp only [tailOk, Bool.and_eq_true] at ht; exact Nat.le_of_ble_eq_true ht.1
  have hplan : ∀ j, j ∈ plan → j < p ∧ hasDst l j = true := by
    intro j hj
    have := List.all_eq_true.1 hall j hj
    simp only [Bool.and_eq_true] at this
    exact ⟨ba this.1, this.2⟩
  have hmem : ∀ j, j < p → j ∈ plan := by
    intro j hj
    have := List.all_eq_true.1 hcov j (List.mem_range.2 hj)
    simpa using this
  have hfree : ∀ i, i < p → hasDst l i = true → f0.get (dstOf l i) = none := by
    intro i hi hd
    have e1 : dstOf (l.take p) i = dstOf l i := by unfold dstOf; rw [List.getElem?_take, if_pos hi]
    have e2 : hasDst (l.take p) i = hasDst l i := by unfold hasDst; rw [List.getElem?_take, if_pos hi]
    rw [← e1]
    exact dA (l := l.take p) (by rw [List.length_take]; omega) (by rw [e2]; exact hd) hfree0
  refine wp_region_any hm ?_
  have key : ∀ (fuel : Nat) (listed : Array Bool) (a : Act) (w' : World), listed.size = l.length → left l.length listed ≤ fuel → Kn n f0 a → (∀ i, p ≤ i → i < l.length → listed.getD i false = false) → (∀ i, listed.getD i false = true → i < p) →
      (∃ pre rest vs, plan = pre ++ rest ∧ (∀ c r, rest = c :: r → cs.contains c = true) ∧ PW P n l p T (fun i => cs.contains i) (fun f' w' => OW P fin n k l.toArray (l.drop p) f' w') rest (depFr l vs pre.reverse ++ f0) w' ∧
        (∀ i, i ∈ pre → cs.contains i = false → RdOk P n l T f0 pre vs w' i) ∧ (∀ i, i ∈ pre → cs.contains i = true → listed.getD i false = true) ∧ (∀ i, listed.getD i false = true → i ∈ pre ∧ a.tmps.getD (dstOf l i) undef = vs i)) →
      wpAny P .any l.toArray (KQ P fin k) fuel listed a w' := by
    intro fuel
    induction fuel with
    | zero =>
      intro listed a w' hs hle hk hun hlp hst
      have hlist : ∀ i, i < l.length → listed.getD i false = true := by
        intro i hi
        cases hc : listed.getD i false with
        | true => rfl
        | false =>
          exfalso
          have := dY hi hs (by rw [bL hs hi true false]; exact hc)
          omega
      have hpe : p = l.length := by
        rcases Nat.lt_or_ge p l.length with h1 | h1
        · have := hun p (Nat.le_refl _) h1; rw [hlist p h1] at this; cases this
        · omega
      obtain ⟨pre, rest, vs, h1, h2, h3, h4, h5, h6⟩ := hst
      have hrest : rest = [] := by
        cases rest with
        | nil => rfl
        | cons c r =>
          exfalso
          have hc := hplan c (by rw [h1]; simp)
          have := (h6 c (hlist c (by omega))).1
          exact (cJ (pre := pre) (h1 ▸ heag)).2 c this (by simp)
      subst hrest
      refine g9 hdr ht 0 p 0 listed a w' (by omega) hpl (Nat.le_refl _) (Nat.le_refl _) hs (fun i hi => by rw [hlist i hi]; simp; omega) ?_
      refine h3 a (Kn.app ?_ hk)
      intro q hq
      obtain ⟨j, hj, rfl⟩ := gA hq
      have hj' : j ∈ pre := by simpa using hj
      exact (h6 j (hlist j (by have := (hplan j (by rw [h1]; simp [hj'])).1; omega))).2
    | succ fuel ih =>
      intro listed a w' hs hle hk hun hlp hst
      obtain ⟨pre, rest, vs, h1, h2, h3, h4, h5, h6⟩ := hst
      by_cases hfull : ∀ i, i < p → listed.getD i false = true
      · have hrest : rest = [] := by
          cases rest with
          | nil => rfl
          | cons c r =>
            exfalso
            have hc := hplan c (by rw [h1]; simp)
            have := (h6 c (hfull c hc.1)).1
            exact (cJ (pre := pre) (h1 ▸ heag)).2 c this (by simp)
        subst hrest
        refine g9 hdr ht (l.length - p) p (fuel + 1) listed a w' rfl hpl (Nat.le_refl _) ?_ hs (fun i hi => ?_) ?_
        · refine Nat.le_trans ?_ hle
          unfold left
          have e1 : l.length - p = ((List.range' p (l.length - p)).countP fun i => !listed.getD i true) := by
            rw [List.countP_eq_length.2 (fun i hi => ?_)]
            · simp
            · rw [List.mem_range'_1] at hi
              rw [bL hs (by omega) true false, hun i (by omega) (by omega)]; rfl
          rw [e1]
          have e2 : List.range l.length = List.range p ++ List.range' p (l.length - p) := by
            have e3 := List.range'_append_1 (s := 0) (m := p) (n := l.length - p)
            rw [Nat.zero_add] at e3
            rw [List.range_eq_range', List.range_eq_range', e3]; congr 1; omega
          rw [e2, List.countP_append]; omega
        · by_cases hip : i < p
          · rw [hfull i hip]; simp [hip]
          · rw [hun i (by omega) hi]; simp [hip]
        · refine h3 a (Kn.app ?_ hk)
          intro q hq
          obtain ⟨j, hj, rfl⟩ := gA hq
          have hj' : j ∈ pre := by simpa using hj
          exact (h6 j (hfull j (hplan j (by rw [h1]; simp [hj'])).1)).2
      · obtain ⟨q, hq⟩ := Classical.not_forall.1 hfull
        obtain ⟨hq1, hq2⟩ := Classical.not_imp.1 hq
        have hq2 : listed.getD q false = false := eq_false_of_ne_true hq2
        refine ⟨fun hr => (by
          have := eX hdr rfl hs hr q (by omega)
          rw [hq2] at this; cases this), fun i hi => ?_⟩
        obtain ⟨h0, o, ho, hedge⟩ := mem_ready.1 hi
        have ho' : l[i]? = some o := by simpa using ho
        have hlt : i < l.length := (List.getElem?_eq_some_iff.1 ho').1
        have hdepl : ∀ j, depB l i j = true → listed.getD j false = true := by
          intro j hj
          simp only [depB, ho'] at hj
          obtain ⟨e, he, h7⟩ := List.any_eq_true.1 hj
          simp only [Bool.and_eq_true, beq_iff_eq] at h7
          have := hedge e (Array.mem_toList_iff.1 he) h7.2
          rwa [h7.1] at this
        have hip : i < p := by
          rcases Nat.lt_or_ge i p with h7 | h7
          · exact h7
          · exfalso
            obtain ⟨e, he, h8, h9⟩ := ja ht hlt h7 (Nat.lt_of_lt_of_le hq1 h7) ho'
            have := hedge e he h9
            rw [h8, hq2] at this; cases this
        have hil : listed.getD i false = false := by rw [bL hs hlt false true]; exact h0
        have hid : hasDst l i = true := (hplan i (hmem i hip)).2
        obtain ⟨d, hod⟩ : ∃ d, o.dst = some d := by
          unfold hasDst at hid; rw [ho'] at hid
          cases hd : o.dst with
          | none => rw [Option.bind_some, hd] at hid; cases hid
          | some d => exact ⟨d, rfl⟩
        have hdd : dstOf l i = d := by simp [dstOf, ho', hod]
        have hdn : d < n := by
          have h8 := List.all_eq_true.1 hdr i (List.mem_range.2 hlt)
          simp only [ho', Bool.and_eq_true] at h8
          rw [hdd] at h8
          exact ba h8.1.1
        have hleft := dY hlt hs h0
        have hun' : ∀ j, p ≤ j → j < l.length → (listed.setIfInBounds i true).getD j false = false := fun j h1 h2 => by rw [getD_set_ne false (by omega)]; exact hun j h1 h2
        have hlp' : ∀ j, (listed.setIfInBounds i true).getD j false = true → j < p := by
          intro j hj
          by_cases hij : i = j
          · subst hij; exact hip
          · rw [getD_set_ne false hij] at hj; exact hlp j hj
        have hput : ∀ v, (a.put o.dst v).tmps.getD (dstOf l i) undef = v := by
          intro v
          rw [hdd, hod]; simp [Act.put, Array.getD_eq_getD_getElem?, hk.size, hdn]
        have hputo : ∀ v j, j < p → hasDst l j = true → i ≠ j → (a.put o.dst v).tmps.getD (dstOf l j) undef = a.tmps.getD (dstOf l j) undef := by
          intro v j hj hdj hij
          have hne : d ≠ dstOf l j := fun e => hij (cP hdr hlt (by omega) hid hdj (by rw [hdd, e]))
          rw [hod]
          simp only [Act.put, Array.getD_eq_getD_getElem?]; rw [Array.getElem?_setIfInBounds_ne hne]
        have hkput : ∀ v, Kn n f0 (a.put o.dst v) := by
          intro v
          rw [hod]
          exact hk.putOther (by rw [← hdd]; exact hfree i hip hid) v
        have hpm := hmem i hip
        rw [h1] at hpm
        have hpredep : ∀ j, depB l i j = true → j ∈ pre → a.tmps.getD (dstOf l j) undef = vs j := fun j hj _ => (h6 j (hdepl j hj)).2
        have step : ∀ f1, Kn n f1 a → ∀ R : Value → World → Prop, PStep P n l.toArray o f1 w' R → (∀ v w2, R v w2 → wpAny P .any l.toArray (KQ P fin k) fuel (listed.setIfInBounds i true) (a.put o.dst v) w2) → wpOp P l.toArray (KQ P fin k) i (wpAny P .any l.toArray (KQ P fin k) fuel (listed.setIfInBounds i true)) a w' := by
          intro f1 hkf R hp hn
          obtain ⟨p1, p2⟩ := hp a hkf (wpAny P .any l.toArray (KQ P fin k) fuel (listed.setIfInBounds i true)) (KQ P fin k) hn
          unfold wpOp
          rw [ho]
          simp only
          by_cases hw : Region.wanted o (yielded l.toArray a.tmps) = true
          · rw [if_pos hw]; exact .inl (p1 hw)
          · rw [if_neg hw]; exact p2 (eq_false_of_ne_true hw)
        rcases List.mem_append.1 hpm with hpre | hrs
        · have hcb : cs.contains i = false := by
            cases hc : cs.contains i with
            | false => rfl
            | true => have := h5 i hpre hc; rw [hil] at this; cases this
          obtain ⟨o2, f1, g1, g2, g3⟩ := h4 i hpre hcb
          rw [ho'] at g1
          simp only [Option.some.injEq] at g1
          subst g1
          refine step f1 (kn_lk hk g2 hpredep) _ (g3 w' (Keep.refl _ _)) ?_
          rintro v w2 ⟨rfl, rfl⟩
          refine ih _ _ _ (by simpa using hs) (by omega) (hkput _) hun' hlp' ⟨pre, rest, vs, h1, h2, h3, h4, fun j hj hc => ?_, fun j hj => ?_⟩
          · by_cases hij : i = j
            · subst hij; rw [hcb] at hc; cases hc
            · rw [getD_set_ne false hij]; exact h5 j hj hc
          · by_cases hij : i = j
            · subst hij; exact ⟨hpre, hput _⟩
            · rw [getD_set_ne false hij] at hj
              obtain ⟨m1, m2⟩ := h6 j hj
              have hpj := hplan j (by rw [h1]; simp [m1])
              exact ⟨m1, by rw [hputo _ j hpj.1 hpj.2 hij]; exact m2⟩
        · cases rest with
          | nil => cases hrs
          | cons c r =>
            have hcc := h2 c r rfl
            rw [h1] at heag
            obtain ⟨he1, he2⟩ := cJ heag
            rcases List.mem_cons.1 hrs with hic | hir
            · subst hic
              have h30 := h3
              unfold PW at h30
              obtain ⟨o2, f1, g1, g2, g3, g4⟩ := h30
              rw [ho'] at g1
              simp only [Option.some.injEq] at g1
              subst g1
              rcases g4 with ⟨_, g4⟩ | ⟨g4, _⟩
              · have hlk := lk_of (f0 := f0) hdr hpl (fun j hj => hplan j (by rw [h1]; simp [hj])) g2 g3
                refine step f1 (kn_lk hk hlk hpredep) _ g4 ?_
                rintro v w2 ⟨hkw, hpw⟩
                have hni : i ∉ pre := fun hm => he2 i hm (by simp)
                have hnr : i ∉ pre.reverse := by simpa using hni
                have hmm : ∀ j, j ∈ pre → j ∈ pre ++ [i] ∧ setV vs i v j = vs j := fun j hj => ⟨by simp [hj], dJ vs v (fun e => hni (e ▸ hj))⟩
                obtain ⟨pre', rest', vs', k1, k2, k3, k4, k5, k6⟩ := absorb (f0 := f0) (T := T) (cb := fun i => cs.contains i) hdr hpl r (pre ++ [i]) (setV vs i v) w2 (by rw [List.append_assoc, List.singleton_append]; exact heag) (by rw [List.append_assoc, List.singleton_append, ← h1]; exact hplan)
                  (by rw [List.reverse_append, List.reverse_singleton, List.singleton_append, depFr, ci, fL hnr]; exact hpw)
                  (fun j hj hcj => by
                    rcases List.mem_append.1 hj with h | h
                    · exact (h4 j h hcj).mono h hmm hkw
                    · rw [List.mem_singleton] at h
                      subst h; rw [hcc] at hcj; cases hcj)
                have hsame : ∀ j, j ∈ pre → j ∈ pre' ∧ vs' j = vs j := fun j hj => ⟨(k2 j (hmm j hj).1).1, ((k2 j (hmm j hj).1).2).trans (hmm j hj).2⟩
                have hci := k2 i (by simp)
                rw [ci] at hci
                refine ih _ _ _ (by simpa using hs) (by omega) (hkput _) hun' hlp' ⟨pre', rest', vs', by rw [← k1, h1]; simp, k4, k5, k6, fun j hj hc => ?_, fun j hj => ?_⟩
                · by_cases hij : i = j
                  · subst hij
                    rw [Array.getD_eq_getD_getElem?]; simp [hs, hlt]
                  · rw [getD_set_ne false hij]
                    rcases k3 j hj with h | h
                    · rcases List.mem_append.1 h with h | h
                      · exact h5 j h hc
                      · rw [List.mem_singleton] at h; exact absurd h.symm hij
                    · rw [hc] at h; cases h
                · by_cases hij : i = j
                  · subst hij; exact ⟨hci.1, by rw [hput, hci.2]⟩
                  · rw [getD_set_ne false hij] at hj
                    obtain ⟨m1, m2⟩ := h6 j hj
                    have hpj := hplan j (by rw [h1]; simp [m1])
                    exact ⟨(hsame j m1).1, by rw [hputo _ j hpj.1 hpj.2 hij, (hsame j m1).2]; exact m2⟩
              · rw [hcc] at g4; cases g4
            · exfalso
              simp only [eager, Bool.and_eq_true] at he1
              have h7 := he1.1.2
              rw [hcc, Bool.not_true, Bool.false_or] at h7
              have h8 := List.all_eq_true.1 h7 i hir
              obtain ⟨j, hj, hdj⟩ := List.any_eq_true.1 h8
              exact he2 j (h6 j (hdepl j hdj)).1 hj
  obtain ⟨pre', rest', vs', k1, k2, k3, k4, k5, k6⟩ := absorb (f0 := f0) (T := T) hdr hpl plan [] (fun _ => undef) _ heag hplan (h _ (cj w)) (fun i hi => by cases hi)
  refine key _ _ a _ (by simp) ?_ ha0 ?_ ?_ ⟨pre', rest', vs', k1, k4, k5, k6, fun i hi hc => ?_, fun i hi => ?_⟩
  · unfold left
    have := List.countP_le_length (p := fun i => !(Array.replicate l.toArray.size false).getD i true) (l := List.range l.length)
    simpa using this
  · intro i _ hi
    rw [Array.getD_eq_getD_getElem?, Array.getElem?_eq_getElem (by simpa using hi)]; simp
  · intro i hi
    exfalso
    rw [Array.getD_eq_getD_getElem?] at hi
    rcases Nat.lt_or_ge i l.toArray.size with h' | h'
    · rw [Array.getElem?_eq_getElem (by simpa using h')] at hi; simp at hi
    · rw [Array.getElem?_eq_none (by simpa using h')] at hi; simp at hi
  · rcases k3 i hi with h | h
    · cases h
    · rw [hc] at h; cases h
  · exfalso
    rw [Array.getD_eq_getD_getElem?] at hi
    rcases Nat.lt_or_ge i l.toArray.size with h' | h'
    · rw [Array.getElem?_eq_getElem (by simpa using h')] at hi; simp at hi
    · rw [Array.getElem?_eq_none (by simpa using h')] at hi; simp at hi
end
end Go.Eng
namespace Go.Eng
open Go Go.IntWalk
section
variable {P : Program} {n : Nat} {f : Fr} {w : World} {ty : TypeId} {fin : Exit → Act → World → Prop} {k : List KI} {l : List Oper} {p : Nat} {T cs r : List Nat} {Fin : Fr → World → Prop} {i : Nat}
theorem cW (m se : Nat) : ∀ (i : Nat) (x : Nat × Nat), ((List.range m).map fun i => (i * se, se))[i]? = some x → some (i * se, se) = some x := by
  intro i x h
  rw [List.getElem?_map] at h
  rcases Nat.lt_or_ge i m with hi | hi
  · rw [List.getElem?_range hi] at h; simpa using h
  · rw [List.getElem?_eq_none (by simpa using hi)] at h; cases h
theorem d5 {j : FuncId} {args : Array Operand} {ats : Array TypeId} {vs : List Value} {v : Value} (hx : f.evs args.toList = some vs) (hc : ∀ w, (callFunc j vs.toArray).run P w = .ok (.value v) w) :
   Gives P n f w (.call { callee := .value (.func j), args := args, argTypes := ats }) ty v w := by
 intro a ha dst pos aft g
 have hm : args.map a.eval = vs.toArray := by rw [← Array.toList_inj]; simp [ha.evs hx]
 simp [execOp, resolve, Deferred.ofValue, Act.eval, invoke, hm, hc]
theorem iM {d : Nat} {op : Op} {pos : String} {aft : Array Edge} {g : Option (Nat × Bool)} (ho : l[i]? = some ⟨some d, op, ty, pos, aft, g⟩) : dstOf l i = d := by unfold dstOf; rw [ho]; rfl
theorem cS (h : OW P fin n k l.toArray (l.drop p) f w) : PW P n l p T (fun i => cs.contains i) (fun f' w' => OW P fin n k l.toArray (l.drop p) f' w') [] f w := by unfold PW; exact h
theorem l8 {f1 : Fr} {ops : Array Oper} {d : Nat} {op : Op} {pos : String} {aft : Array Edge} {v : Value} (hr : Gives P n f1 w op ty v w) : PStep P n ops ⟨some d, op, ty, pos, aft, none⟩ f1 w (fun v' w'' => v' = v ∧ w'' = w) := by
  intro a ha K Q hK
  refine ⟨fun _ => ?_, fun h => by simp [Region.wanted] at h⟩
  unfold Oper.wp
  rw [hr a ha]
  exact hK _ _ ⟨rfl, rfl⟩
theorem mb (f1 : Fr) {op : Op} {d : Nat} {pos : String} {aft : Array Edge} {v : Value} (ho : l[i]? = some ⟨some d, op, ty, pos, aft, none⟩) (hc : cs.contains i = false) (hs : Fr.sub f1 f) (hk : slotsOk l p i f1 = true)
   (hr : ∀ w', Keep T w w' → Gives P n f1 w' op ty v w') (h : PW P n l p T (fun i => cs.contains i) Fin r ((d, v) :: f) w) : PW P n l p T (fun i => cs.contains i) Fin (i :: r) f w := by
 unfold PW
 exact ⟨_, f1, ho, hs, hk, .inr ⟨hc, v, fun w' hw => l8 (hr w' hw), by rw [iM ho]; exact h⟩⟩
theorem pw_gx (f1 : Fr) {op : Op} {d : Nat} {pos : String} {aft : Array Edge} {kd : IntKind} {e e' lo hi : Int} (ho : l[i]? = some ⟨some d, op, ty, pos, aft, none⟩) (hc : cs.contains i = false) (hs : Fr.sub f1 f) (hk : slotsOk l p i f1 = true)
   (hr : ∀ w', Keep T w w' → Gives P n f1 w' op ty (.int kd e) w') (he : e = e') (hb : In e' lo hi) (h : ∀ z, Eqn z e' → In z lo hi → PW P n l p T (fun i => cs.contains i) Fin r ((d, .int kd z) :: f) w) : PW P n l p T (fun i => cs.contains i) Fin (i :: r) f w := by
 subst he; exact mb f1 ho hc hs hk hr (h _ rfl hb)
theorem bx (f1 : Fr) {op : Op} {d : Nat} {pos : String} {aft : Array Edge} {R : Value → World → Prop} (ho : l[i]? = some ⟨some d, op, ty, pos, aft, none⟩) (hc : cs.contains i = true) (hs : Fr.sub f1 f) (hk : slotsOk l p i f1 = true)
   (hr : Does P n f1 w op ty R) (h : ∀ v w', R v w' → Keep T w w' ∧ PW P n l p T (fun i => cs.contains i) Fin r ((d, v) :: f) w') : PW P n l p T (fun i => cs.contains i) Fin (i :: r) f w := by
 unfold PW
 refine ⟨_, f1, ho, hs, hk, .inl ⟨hc, fun a ha K Q hK => ⟨fun _ => ?_, fun h => by simp [Region.wanted] at h⟩⟩⟩
 exact hr a ha _ _ _ _ _ _ (fun v w' hv => hK _ _ (by rw [iM ho]; exact h v w' hv))
end
end Go.Eng
namespace Go.Eng
open Go Go.IntWalk
def cblk : Value → List Nat
 | .tuple vs => vs.toList.flatMap fun u => u.cells.toList.flatMap vblk
 | v => v.cells.toList.flatMap vblk
section
variable {P : Program} {n : Nat}
def eQ (l : List Oper) (p : Nat) : Bool := Nat.ble p l.length && ((List.range l.length).all fun i => !(Nat.blt p i) || depB l i (i - 1)) && (Nat.ble l.length p || (List.range p).all fun j => (List.range (p + 1)).any fun m => Nat.blt j m && depB l m j)
theorem fi {l : List Oper} {i j : Nat} (h : depB l i j = true) : ∃ o, l[i]? = some o ∧ ∃ e ∈ o.after, e.on = j ∧ Region.binds .any e = true := by
 unfold depB at h
 cases ho : l[i]? with
 | none => rw [ho] at h; cases h
 | some o =>
   rw [ho] at h
   obtain ⟨e, he, h3⟩ := List.any_eq_true.1 h
   simp only [Bool.and_eq_true, beq_iff_eq] at h3
   exact ⟨o, rfl, e, Array.mem_toList_iff.1 he, h3.1, h3.2⟩
theorem gg {l : List Oper} {p i : Nat} (h : eQ l p = true) (hi : i < l.length) (hp : p < i) : depB l i (i - 1) = true := by
 simp only [eQ, Bool.and_eq_true] at h
 have h1 := List.all_eq_true.1 h.1.2 i (List.mem_range.2 hi)
 have hn : Nat.blt p i = true := Nat.ble_eq_true_of_le hp
 rw [hn] at h1; simpa using h1
theorem mN {l : List Oper} {p : Nat} {S : Nat → Prop} (h : eQ l p = true) (hp : p < l.length) (hS : ∀ i j, i = p ∨ S i → depB l i j = true → S j) : ∀ d j, j < p → d = p - j → S j := by
 intro d
 induction d using Nat.strongRecOn with
 | ind d ih =>
   intro j hj hd
   simp only [eQ, Bool.and_eq_true, Bool.or_eq_true] at h
   rcases h.2 with h1 | h1
   · have := Nat.le_of_ble_eq_true h1; omega
   · obtain ⟨m, hm, h2⟩ := List.any_eq_true.1 (List.all_eq_true.1 h1 j (List.mem_range.2 hj))
     simp only [Bool.and_eq_true] at h2
     have h3 := ba h2.1
     have h4 := List.mem_range.1 hm
     refine hS m j ?_ h2.2
     rcases Nat.lt_or_ge m p with h5 | h5
     · exact .inr (ih (p - m) (by omega) m h5 rfl)
     · exact .inl (by omega)
theorem gG {l : List Oper} {p0 : Nat} {Q : Exit → Act → World → Prop} (hok : drawOk n l = true) (ht : eQ l p0 = true) : ∀ (d p fuel : Nat) (listed : Array Bool) (a : Act) (w : World), d = l.length - p → p ≤ l.length → p0 ≤ p → d ≤ fuel → listed.size = l.length →
   (∀ i, i < l.length → listed.getD i false = decide (i < p)) → wpList P l.toArray Q (l.drop p) a w → wpAny P .any l.toArray Q fuel listed a w := by
 intro d
 induction d with
 | zero =>
   intro p fuel listed a w hd hp hp0 hf hs hl h
   have hpl : p = l.length := by omega
   subst hpl
   rw [List.drop_length] at h
   have hr : Region.ready .any l.toArray listed = [] := by
     cases hr : Region.ready .any l.toArray listed with
     | nil => rfl
     | cons i r =>
       exfalso
       have hi : i ∈ Region.ready .any l.toArray listed := by rw [hr]; simp
       obtain ⟨h0, o, ho, _⟩ := mem_ready.1 hi
       have hlt : i < l.length := by have := (Array.getElem?_eq_some_iff.1 ho).1; simpa using this
       rw [bL hs hlt true false, hl i hlt] at h0
       simp [hlt] at h0
   cases fuel with
   | zero => exact ⟨hr, h⟩
   | succ f => exact ⟨fun _ => h, fun i hi => by rw [hr] at hi; cases hi⟩
 | succ d ih =>
   intro p fuel listed a w hd hp hp0 hf hs hl h
   have hplt : p < l.length := by omega
   obtain ⟨f, rfl⟩ : ∃ f, fuel = f + 1 := ⟨fuel - 1, by omega⟩
   have hget : l[p]? = some l[p] := List.getElem?_eq_getElem hplt
   have honly : ∀ i, i ∈ Region.ready .any l.toArray listed → i = p := by
     intro i hi
     obtain ⟨h0, o, ho, hedge⟩ := mem_ready.1 hi
     have hlt : i < l.length := by have := (Array.getElem?_eq_some_iff.1 ho).1; simpa using this
     have h1 : ¬ i < p := by
       rw [bL hs hlt true false, hl i hlt] at h0
       simpa using h0
     rcases Nat.lt_or_ge p i with h2 | h2
     · obtain ⟨o', ho', e, he, h3, h4⟩ := fi (gg ht hlt (by omega))
       rw [show l[i]? = some o from by simpa using ho] at ho'
       obtain rfl := Option.some.inj ho'
       have := hedge e he h4
       rw [h3, hl (i - 1) (by omega)] at this
       have := of_decide_eq_true this
       omega
     · omega
   have hmem : p ∈ Region.ready .any l.toArray listed := by
     refine mem_ready.2 ⟨by rw [bL hs hplt true false, hl p hplt]; simp, l[p], by simp [hget], fun e he hb => ?_⟩
     have h1 := List.all_eq_true.1 hok p (List.mem_range.2 hplt)
     simp only [hget, Bool.and_eq_true] at h1
     have h2 := List.all_eq_true.1 h1.1.2 e (Array.mem_toList_iff.2 he)
     rw [hb] at h2
     have h3 : e.on < p := ba (by simpa using h2)
     rw [hl e.on (by omega)]; simpa using h3
   refine ⟨fun hr => (by rw [hr] at hmem; cases hmem), fun i hi => ?_⟩
   have := honly i hi
   subst this
   rw [List.drop_eq_getElem_cons hplt] at h
   unfold wpOp
   rw [show l.toArray[i]? = some l[i] from by simp [hget]]
   simp only
   unfold wpList at h
   have hnext : ∀ a' w', wpList P l.toArray Q (l.drop (i + 1)) a' w' → wpAny P .any l.toArray Q f (listed.setIfInBounds i true) a' w' := by
     intro a' w' h'
     refine ih (i + 1) f _ a' w' (by omega) (by omega) (by omega) (by omega) (by simpa using hs) ?_ h'
     intro j hj
     by_cases hij : i = j
     · subst hij
       rw [Array.getD_eq_getD_getElem?]; simp [hs, hj]
     · rw [getD_set_ne false hij, hl j hj]
       by_cases h1 : j < i
       · simp [h1]; omega
       · simp [h1]; omega
   split at h
   · rename_i hw
     rw [if_pos hw]
     exact h.imp (fun h => Oper.wp_mono (fun a' w' h' => hnext a' w' h') h) id
   · rename_i hw
     rw [if_neg hw]
     exact hnext _ _ h
def dpF (l : List Oper) (vs : Nat → Value) : List Nat → Fr
 | [] => []
 | j :: r => bif hasDst l j then (dstOf l j, vs j) :: dpF l vs r else dpF l vs r
theorem gY {l : List Oper} {vs : Nat → Value} {q : Nat × Value} : ∀ {deps : List Nat}, q ∈ dpF l vs deps → ∃ j, j ∈ deps ∧ hasDst l j = true ∧ q = (dstOf l j, vs j)
 | [], h => by cases h
 | j :: r, h => by
   unfold dpF at h
   cases hd : hasDst l j with
   | true =>
     rw [hd, cond_true, List.mem_cons] at h
     rcases h with h | h
     · exact ⟨j, by simp, hd, h⟩
     · obtain ⟨i, h1, h2, h3⟩ := gY h
       exact ⟨i, by simp [h1], h2, h3⟩
   | false =>
     rw [hd, cond_false] at h
     obtain ⟨i, h1, h2, h3⟩ := gY h
     exact ⟨i, by simp [h1], h2, h3⟩
theorem gZ {l : List Oper} {vs : Nat → Value} {f0 : Fr} : ∀ {pre : List Nat} {t : Nat} {u : Value}, (dpF l vs pre ++ f0).get t = some u → (∃ j, j ∈ pre ∧ hasDst l j = true ∧ dstOf l j = t ∧ vs j = u) ∨ f0.get t = some u
 | [], t, u, h => .inr h
 | j :: r, t, u, h => by
   have rest : (dpF l vs r ++ f0).get t = some u → (∃ i, i ∈ j :: r ∧ hasDst l i = true ∧ dstOf l i = t ∧ vs i = u) ∨ f0.get t = some u := by
     intro h
     rcases gZ (pre := r) h with ⟨i, hi, h1, h2⟩ | h1
     · exact .inl ⟨i, by simp [hi], h1, h2⟩
     · exact .inr h1
   unfold dpF at h
   cases hd : hasDst l j with
   | false => rw [hd, cond_false] at h; exact rest h
   | true =>
     rw [hd, cond_true] at h
     simp only [List.cons_append, Fr.get] at h
     by_cases e : Nat.beq (dstOf l j) t = true
     · rw [e] at h
       simp only [cond_true, Option.some.injEq] at h
       exact .inl ⟨j, by simp, hd, Nat.eq_of_beq_eq_true e, h⟩
     · have e' : Nat.beq (dstOf l j) t = false := eq_false_of_ne_true e
       rw [e'] at h
       exact rest h
def frPut (l : List Oper) (i : Nat) (v : Value) (f : Fr) : Fr := bif hasDst l i then (dstOf l i, v) :: f else f
theorem iN {l : List Oper} {vs : Nat → Value} {i : Nat} {r : List Nat} {f0 : Fr} : dpF l vs (i :: r) ++ f0 = frPut l i (vs i) (dpF l vs r ++ f0) := by
 unfold frPut
 simp only [dpF]
 cases hasDst l i <;> rfl
section
variable {l : List Oper} {p : Nat} {T : List Nat} {f0 : Fr}
def LkA (l : List Oper) (f0 : Fr) (pre : List Nat) (vs : Nat → Value) (i : Nat) (f1 : Fr) : Prop :=
 ∀ t u, f1.get t = some u → (∃ j, j ∈ pre ∧ depB l i j = true ∧ hasDst l j = true ∧ dstOf l j = t ∧ vs j = u) ∨ f0.get t = some u
theorem kw {n : Nat} (hok : drawOk n l = true) (hpl : p ≤ l.length) {pre : List Nat} {vs : Nat → Value} {i : Nat} {f1 : Fr} (hpre : ∀ j, j ∈ pre → j < p) (hs : Fr.sub f1 (dpF l vs pre.reverse ++ f0)) (h : slotsOk l p i f1 = true) : LkA l f0 pre vs i f1 := by
 intro t u ht
 rcases gZ (jB hs t u ht) with ⟨j, hj, h0, h1, h2⟩ | h1
 · have hj' : j ∈ pre := by simpa using hj
   obtain ⟨q, hq, hq'⟩ := jT ht
   have h3 := List.all_eq_true.1 h q hq
   simp only [Bool.or_eq_true] at h3
   rcases h3 with h3 | h3
   · have h4 := List.all_eq_true.1 h3 j (List.mem_range.2 (hpre j hj'))
     rw [h0, hq'] at h4
     simp [h1] at h4
   · obtain ⟨j', hj1, h5⟩ := List.any_eq_true.1 h3
     simp only [Bool.and_eq_true, beq_iff_eq] at h5
     have hlt := List.mem_range.1 hj1
     have : j = j' := cP hok (Nat.lt_of_lt_of_le (hpre j hj') hpl) (Nat.lt_of_lt_of_le hlt hpl) h0 h5.2.1 (by rw [h1, h5.2.2, hq'])
     subst this
     exact .inl ⟨j, hj', h5.1, h0, h1, h2⟩
 · exact .inr h1
def RdOkA (P : Program) (n : Nat) (l : List Oper) (T : List Nat) (f0 : Fr) (pre : List Nat) (vs : Nat → Value) (w : World) (i : Nat) : Prop :=
 ∃ o f1, l[i]? = some o ∧ LkA l f0 pre vs i f1 ∧ ∀ w', Keep T w w' → PStep P n l.toArray o f1 w' (fun v' w'' => v' = vs i ∧ w'' = w')
theorem LkA.mono {pre pre' : List Nat} {vs vs' : Nat → Value} {i : Nat} {f1 : Fr} (h : LkA l f0 pre vs i f1) (hm : ∀ j, j ∈ pre → j ∈ pre' ∧ vs' j = vs j) : LkA l f0 pre' vs' i f1 := by
 intro t u ht
 rcases h t u ht with ⟨j, h1, h2, h3, h4, h5⟩ | h1
 · exact .inl ⟨j, (hm j h1).1, h2, h3, h4, by rw [(hm j h1).2, h5]⟩
 · exact .inr h1
theorem RdOkA.mono {pre pre' : List Nat} {vs vs' : Nat → Value} {w w' : World} {i : Nat} (h : RdOkA P n l T f0 pre vs w i) (hi : i ∈ pre) (hm : ∀ j, j ∈ pre → j ∈ pre' ∧ vs' j = vs j) (hk : Keep T w w') : RdOkA P n l T f0 pre' vs' w' i := by
 obtain ⟨o, f1, h1, h2, h3⟩ := h
 refine ⟨o, f1, h1, h2.mono hm, fun w2 hk2 => ?_⟩
 rw [(hm i hi).2]
 exact h3 w2 (hk.trans hk2)
theorem fh {vs : Nat → Value} {i : Nat} {v : Value} : ∀ {pre : List Nat}, i ∉ pre → dpF l (setV vs i v) pre = dpF l vs pre
 | [], _ => rfl
 | j :: r, h => by
   simp only [dpF]
   rw [dJ vs v (fun e => h (by simp [e])), fh (pre := r) (fun hm => h (by simp [hm]))]
theorem hD {pre : List Nat} {vs : Nat → Value} {i : Nat} {f1 : Fr} {a : Act} (hk : Kn n f0 a) (hl : LkA l f0 pre vs i f1) (hd : ∀ j, depB l i j = true → j ∈ pre → hasDst l j = true → a.tmps.getD (dstOf l j) undef = vs j) : Kn n f1 a := by
 refine ⟨hk.size, hk.defers, fun t u ht => ?_⟩
 rcases hl t u ht with ⟨j, h1, h2, h3, h4, h5⟩ | h1
 · rw [← h4, ← h5]; exact hd j h2 h1 h3
 · exact hk.get t u h1
end
def planOkA (n : Nat) (l : List Oper) (p : Nat) (plan : List Nat) (cb : Nat → Bool) (fl : List Nat) : Bool :=
 drawOk n l && eQ l p && plan.all (fun i => Nat.blt i p && (hasDst l i || cb i)) && (List.range p).all (fun i => plan.contains i || fl.contains i) && eager l cb plan && fl.all (fun i => Nat.blt i p && !plan.contains i)
def PA (P : Program) (n : Nat) (l : List Oper) (p : Nat) (T : List Nat) (O : Nat → Prop) (cb : Nat → Bool) (Fin : Fr → World → Prop) : List Nat → Fr → World → Prop
 | [], f, w => Fin f w
 | i :: r, f, w => ∃ o f1, l[i]? = some o ∧ Fr.sub f1 f ∧ slotsOk l p i f1 = true ∧
   ((cb i = true ∧ ∀ w1, Keep [] w w1 → PStep P n l.toArray o f1 w1 (fun v w' => Keep T w1 w' ∧ (∀ x, x ∈ cblk v → (O x ∨ w1.heap.size ≤ x) ∧ x < w'.heap.size) ∧ PA P n l p T O cb Fin r (frPut l i v f) w')) ∨
    (cb i = false ∧ ∃ v, (∀ w', Keep T w w' → PStep P n l.toArray o f1 w' (fun v' w'' => v' = v ∧ w'' = w')) ∧ PA P n l p T O cb Fin r (frPut l i v f) w))
theorem PA.grow {l : List Oper} {p : Nat} {T : List Nat} {O : Nat → Prop} {cb : Nat → Bool} {Fin : Fr → World → Prop} (hF : ∀ f w w', Keep [] w w' → Fin f w → Fin f w') : ∀ (pl : List Nat) (f : Fr) (w w' : World), Keep [] w w' → PA P n l p T O cb Fin pl f w → PA P n l p T O cb Fin pl f w'
 | [], f, w, w', k, h => by unfold PA at *; exact hF _ _ _ k h
 | i :: r, f, w, w', k, h => by
   unfold PA at *
   obtain ⟨o, f1, h1, h2, h3, h4⟩ := h
   refine ⟨o, f1, h1, h2, h3, ?_⟩
   rcases h4 with ⟨hc, h4⟩ | ⟨hc, v, h5, h6⟩
   · exact .inl ⟨hc, fun w1 k1 => h4 w1 (k.trans k1)⟩
   · exact .inr ⟨hc, v, fun w1 k1 => h5 w1 (k.weak.trans k1), PA.grow hF r _ w w' k h6⟩
section
variable {l : List Oper} {p : Nat} {T : List Nat} {O : Nat → Prop} {cb : Nat → Bool} {Fin : Fr → World → Prop} {f0 : Fr}
theorem absorbA {n : Nat} (hok : drawOk n l = true) (hpl : p ≤ l.length) : ∀ (rest pre : List Nat) (vs : Nat → Value) (w : World), eager l cb (pre ++ rest) = true → (∀ j, j ∈ pre ++ rest → j < p ∧ (hasDst l j = true ∨ cb j = true)) → PA P n l p T O cb Fin rest (dpF l vs pre.reverse ++ f0) w →
   (∀ i, i ∈ pre → cb i = false → RdOkA P n l T f0 pre vs w i) → ∃ pre' rest' vs', pre ++ rest = pre' ++ rest' ∧ (∀ i, i ∈ pre → i ∈ pre' ∧ vs' i = vs i) ∧ (∀ i, i ∈ pre' → i ∈ pre ∨ cb i = false) ∧ (∀ c r, rest' = c :: r → cb c = true) ∧
     PA P n l p T O cb Fin rest' (dpF l vs' pre'.reverse ++ f0) w ∧ ∀ i, i ∈ pre' → cb i = false → RdOkA P n l T f0 pre' vs' w i
 | [], pre, vs, w, _, _, h, hr => ⟨pre, [], vs, rfl, fun i hi => ⟨hi, rfl⟩, fun i hi => .inl hi, (fun c r h => by cases h), h, hr⟩
 | i :: r, pre, vs, w, he, hb, h, hr => by
   have h0 := h
   unfold PA at h
   obtain ⟨o, f1, h1, h2, h3, h4⟩ := h
   rcases h4 with ⟨hc, _⟩ | ⟨hc, v, h5, h6⟩
   · exact ⟨pre, i :: r, vs, rfl, fun i hi => ⟨hi, rfl⟩, fun i hi => .inl hi, (fun c r h => by cases h; exact hc), h0, hr⟩
   · have hni : i ∉ pre := fun hm => (cJ he).2 i hm (by simp)
     have hlk := kw (f0 := f0) hok hpl (fun j hj => (hb j (by simp [hj])).1) h2 h3
     have hm : ∀ j, j ∈ pre → j ∈ pre ++ [i] ∧ setV vs i v j = vs j := fun j hj => ⟨by simp [hj], dJ vs v (fun e => hni (e ▸ hj))⟩
     have hnr : i ∉ pre.reverse := by simpa using hni
     obtain ⟨pre', rest', vs', k1, k2, k3, k4, k5, k6⟩ := absorbA hok hpl r (pre ++ [i]) (setV vs i v) w (by simpa using he) (by simpa using hb)
       (by rw [List.reverse_append, List.reverse_singleton, List.singleton_append, iN, ci, fh hnr]; exact h6)
       (fun j hj hcj => by
         rcases List.mem_append.1 hj with h | h
         · exact (hr j h hcj).mono h hm (Keep.refl _ _)
         · rw [List.mem_singleton] at h
           subst h
           refine ⟨o, f1, h1, hlk.mono hm, fun w2 hk2 => ?_⟩
           rw [ci]; exact h5 w2 hk2)
     refine ⟨pre', rest', vs', by simpa using k1, fun j hj => ?_, fun j hj => ?_, k4, k5, k6⟩
     · obtain ⟨q1, q2⟩ := k2 j (hm j hj).1
       exact ⟨q1, q2.trans (hm j hj).2⟩
     · rcases k3 j hj with h | h
       · rcases List.mem_append.1 h with h | h
         · exact .inl h
         · rw [List.mem_singleton] at h; subst h; exact .inr hc
       · exact .inr h
end
variable {fin : Exit → Act → World → Prop} {k : List KI} {f : Fr} {w : World}
def FinA (P : Program) (fin : Exit → Act → World → Prop) (n : Nat) (k : List KI) (l : List Oper) (p s0 : Nat) (cs : List Nat) (fc : Fr) : List (Nat × TypeId × List Value) → List Nat → Fr → World → Prop
 | [], _, f, w => OW P fin n k l.toArray (l.drop p) f w
 | q :: r, seen, f, w => ∀ b, s0 ≤ b → b < w.heap.size → Bk w b q.2.1 q.2.2 → (∀ x, x ∈ seen → x ≠ b) → (∀ j, j ∈ cs → hasDst l j = true → ∀ v, fc.get (dstOf l j) = some v → ∀ x, x ∈ cblk v → x ≠ b) →
   FinA P fin n k l p s0 cs fc r (b :: seen) ((dstOf l q.1, .pointer (some ⟨b, 0, none⟩)) :: f) w
def flFr (l : List Oper) (bs : Nat → Nat) : List (Nat × TypeId × List Value) → Fr → Fr
 | [], f => f
 | q :: r, f => flFr l bs r ((dstOf l q.1, .pointer (some ⟨bs q.1, 0, none⟩)) :: f)
theorem FinA.use {l : List Oper} {p s0 : Nat} {cs : List Nat} {fc : Fr} {bs : Nat → Nat} : ∀ {fl : List (Nat × TypeId × List Value)} {seen : List Nat} {f : Fr} {w : World}, FinA P fin n k l p s0 cs fc fl seen f w →
   (∀ q, q ∈ fl → s0 ≤ bs q.1 ∧ bs q.1 < w.heap.size ∧ Bk w (bs q.1) q.2.1 q.2.2 ∧ (∀ j, j ∈ cs → hasDst l j = true → ∀ v, fc.get (dstOf l j) = some v → ∀ x, x ∈ cblk v → x ≠ bs q.1) ∧ (∀ x, x ∈ seen → x ≠ bs q.1)) →
   (fl.map (·.1)).Nodup → (∀ q q', q ∈ fl → q' ∈ fl → q.1 ≠ q'.1 → bs q.1 ≠ bs q'.1) → OW P fin n k l.toArray (l.drop p) (flFr l bs fl f) w
 | [], seen, f, w, h, _, _, _ => h
 | q :: r, seen, f, w, h, hq, hnd, hd => by
   obtain ⟨h1, h2, h3, h4, h5⟩ := hq q (by simp)
   have hnd' := List.nodup_cons.1 hnd
   refine FinA.use (fl := r) (f := (dstOf l q.1, .pointer (some ⟨bs q.1, 0, none⟩)) :: f) (h (bs q.1) h1 h2 h3 h5 h4) (fun q' hq' => ?_) hnd'.2 (fun a b ha hb => hd a b (by simp [ha]) (by simp [hb]))
   obtain ⟨g1, g2, g3, g4, g5⟩ := hq q' (by simp [hq'])
   refine ⟨g1, g2, g3, g4, fun x hx => ?_⟩
   rcases List.mem_cons.1 hx with rfl | hx
   · exact hd q q' (by simp) (by simp [hq']) (fun e => hnd'.1 (List.mem_map.2 ⟨q', hq', e.symm⟩))
   · exact g5 x hx
theorem nx {q q' : Nat × TypeId × List Value} : ∀ {fl : List (Nat × TypeId × List Value)}, (fl.map (·.1)).Nodup → q ∈ fl → q' ∈ fl → q.1 = q'.1 → q' = q
 | [], _, h, _, _ => by cases h
 | a :: r, hn, h1, h2, he => by
   have hn' := List.nodup_cons.1 hn
   rcases List.mem_cons.1 h1 with e1 | h1 <;> rcases List.mem_cons.1 h2 with e2 | h2
   · rw [e1, e2]
   · exact absurd (List.mem_map.2 ⟨q', h2, by rw [← he, e1]⟩) hn'.1
   · exact absurd (List.mem_map.2 ⟨q, h1, by rw [he, e2]⟩) hn'.1
   · exact nx hn'.2 h1 h2 he
theorem jP {l : List Oper} {bs : Nat → Nat} {a : Act} : ∀ {fl : List (Nat × TypeId × List Value)} {f : Fr}, Kn n f a → (∀ q, q ∈ fl → a.tmps.getD (dstOf l q.1) undef = .pointer (some ⟨bs q.1, 0, none⟩)) → Kn n (flFr l bs fl f) a
 | [], f, h, _ => h
 | q :: r, f, h, hq => by
   refine jP (fl := r) ?_ (fun q' hq' => hq q' (by simp [hq']))
   have := Kn.app (n := n) (g := [(dstOf l q.1, .pointer (some ⟨bs q.1, 0, none⟩))]) (f := f) (a := a) (fun p hp => by
     rw [List.mem_singleton] at hp; subst hp; exact hq q (by simp)) h
   exact this
def FlOk (P : Program) (l : List Oper) (q : Nat × TypeId × List Value) : Prop := ∃ d ty pos aft s by_, l[q.1]? = some ⟨some d, .alloc q.2.1, ty, pos, aft, none⟩ ∧ Ty P q.2.1 q.2.2 s by_
def setB (bs : Nat → Nat) (i b : Nat) : Nat → Nat := fun j => bif Nat.beq j i then b else bs j
theorem cL (bs : Nat → Nat) (i b : Nat) : setB bs i b i = b := by simp [setB]
theorem cr (bs : Nat → Nat) {i j : Nat} (b : Nat) (h : j ≠ i) : setB bs i b j = bs j := by
 unfold setB
 cases hb : Nat.beq j i with
 | false => rfl
 | true => exact absurd (Nat.eq_of_beq_eq_true hb) h
theorem bJ {id : Nat} {l : List Oper} (p : Nat) (plan : List Nat) (cs : List Nat) (T : List Nat) (fl : List (Nat × TypeId × List Value)) (hm : P.follows .mixedOrders = true) (f0 : Fr) (hf : Fr.sub f0 f) (hok : planOkA n l p plan (fun i => cs.contains i) (fl.map (·.1)) = true) (hnd : (fl.map (·.1)).Nodup) (hcs : cs.all (fun i => plan.contains i) = true) (hfl : ∀ q, q ∈ fl → FlOk P l q) (hT : ∀ x, x ∈ T → x < w.heap.size) (hfree0 : freeOk (l.take p) f0 = true)
    (h : ∀ w1, Keep [] w w1 → PA P n l p T (fun x => x < w.heap.size ∨ fl = []) (fun i => cs.contains i) (fun f' w' => ∀ w2, Keep [] w' w2 → FinA P fin n k l p w.heap.size cs f' fl [] f' w2) plan f0 w1) :
    TW P fin n (.c (.region id l.toArray true) :: k) f w := by
  intro a ha
  simp only [KQ]
  have ha0 := ha.sub hf
  simp only [planOkA, Bool.and_eq_true] at hok
  obtain ⟨⟨⟨⟨⟨hdr, ht⟩, hall⟩, hcov⟩, heag⟩, hfla⟩ := hok
  have hfl1 : ∀ q, q ∈ fl → q.1 < p ∧ q.1 ∉ plan := by
    intro q hq
    have := List.all_eq_true.1 hfla q.1 (List.mem_map.2 ⟨q, hq, rfl⟩)
    simp only [Bool.and_eq_true, Bool.not_eq_true'] at this
    exact ⟨ba this.1, by simpa using this.2⟩
  have hcsp : ∀ j, j ∈ cs → j ∈ plan := by
    intro j hj
    have := List.all_eq_true.1 hcs j hj
    simpa using this
  have hpl : p ≤ l.length := by simp only [eQ, Bool.and_eq_true] at ht; exact Nat.le_of_ble_eq_true ht.1.1
  have hplan : ∀ j, j ∈ plan → j < p ∧ (hasDst l j = true ∨ cs.contains j = true) := by
    intro j hj
    have := List.all_eq_true.1 hall j hj
    simp only [Bool.and_eq_true, Bool.or_eq_true] at this
    exact ⟨ba this.1, this.2⟩
  have hmem : ∀ j, j < p → j ∈ plan ∨ ∃ q, q ∈ fl ∧ q.1 = j := by
    intro j hj
    have := List.all_eq_true.1 hcov j (List.mem_range.2 hj)
    simp only [Bool.or_eq_true, List.contains_iff_mem, List.mem_map] at this
    exact this
  have hgrow : ∀ f' w1 w2, Keep [] w1 w2 → (∀ w3, Keep [] w1 w3 → FinA P fin n k l p w.heap.size cs f' fl [] f' w3) → (∀ w3, Keep [] w2 w3 → FinA P fin n k l p w.heap.size cs f' fl [] f' w3) := fun f' w1 w2 k1 h w3 k3 => h w3 (k1.trans k3)
  have hfree : ∀ i, i < p → hasDst l i = true → f0.get (dstOf l i) = none := by
    intro i hi hd
    have e1 : dstOf (l.take p) i = dstOf l i := by unfold dstOf; rw [List.getElem?_take, if_pos hi]
    have e2 : hasDst (l.take p) i = hasDst l i := by unfold hasDst; rw [List.getElem?_take, if_pos hi]
    rw [← e1]
    exact dA (l := l.take p) (by rw [List.length_take]; omega) (by rw [e2]; exact hd) hfree0
  have hend : ∀ (listed : Array Bool) (a : Act) (w' : World), Kn n f0 a → (∀ i, i < p → listed.getD i false = true) → w.heap.size ≤ w'.heap.size →
      (∃ pre rest vs, ∃ bs : Nat → Nat, plan = pre ++ rest ∧ (∀ c r, rest = c :: r → cs.contains c = true) ∧ PA P n l p T (fun x => x < w.heap.size ∨ fl = []) (fun i => cs.contains i) (fun f' w' => ∀ w2, Keep [] w' w2 → FinA P fin n k l p w.heap.size cs f' fl [] f' w2) rest (dpF l vs pre.reverse ++ f0) w' ∧
        (∀ i, i ∈ pre → cs.contains i = false → RdOkA P n l T f0 pre vs w' i) ∧ (∀ i, i ∈ pre → cs.contains i = true → listed.getD i false = true) ∧ (∀ i, listed.getD i false = true → (∃ q, q ∈ fl ∧ q.1 = i) ∨ i ∈ pre ∧ (hasDst l i = true → a.tmps.getD (dstOf l i) undef = vs i)) ∧
        (∀ q, q ∈ fl → listed.getD q.1 false = true → a.tmps.getD (dstOf l q.1) undef = .pointer (some ⟨bs q.1, 0, none⟩) ∧ w.heap.size ≤ bs q.1 ∧ bs q.1 < w'.heap.size ∧ Bk w' (bs q.1) q.2.1 q.2.2 ∧ ∀ j, j ∈ pre → cs.contains j = true → ∀ x, x ∈ cblk (vs j) → x ≠ bs q.1) ∧
        (∀ j, j ∈ pre → cs.contains j = true → ∀ x, x ∈ cblk (vs j) → x < w'.heap.size) ∧
        (∀ q q', q ∈ fl → q' ∈ fl → listed.getD q.1 false = true → listed.getD q'.1 false = true → q.1 ≠ q'.1 → bs q.1 ≠ bs q'.1)) →
      wpList P l.toArray (KQ P fin k) (l.drop p) a w' := by
    intro listed a w' hk hlist hsz hst
    obtain ⟨pre, rest, vs, bs, h1, h2, h3, h4, h5, h6, h7, h8, h9⟩ := hst
    have hnf : ∀ c, c ∈ plan → ¬ ∃ q, q ∈ fl ∧ q.1 = c := fun c hc ⟨q, hq, he⟩ => (hfl1 q hq).2 (he ▸ hc)
    have hrest : rest = [] := by
      cases rest with
      | nil => rfl
      | cons c r =>
        exfalso
        have hcp : c ∈ plan := by rw [h1]; simp
        have hc := hplan c hcp
        rcases h6 c (hlist c hc.1) with h | h
        · exact hnf c hcp h
        · exact (cJ (pre := pre) (h1 ▸ heag)).2 c h.1 (by simp)
    subst hrest
    have hF := h3
    unfold PA at hF
    have hpre : ∀ j, j ∈ pre → j ∈ plan := fun j hj => by rw [h1]; simp [hj]
    have hkF : Kn n (dpF l vs pre.reverse ++ f0) a := Kn.app (by
      intro q hq
      obtain ⟨j, hj, hjd, rfl⟩ := gY hq
      have hj' : j ∈ pre := by simpa using hj
      rcases h6 j (hlist j (hplan j (hpre j hj')).1) with h | h
      · exact absurd h (hnf j (hpre j hj'))
      · exact h.2 hjd) hk
    refine FinA.use (bs := bs) (hF w' (Keep.refl _ _)) (fun q hq => ?_) hnd (fun q q' hq hq' hne => h9 q q' hq hq' (hlist _ (hfl1 q hq).1) (hlist _ (hfl1 q' hq').1) hne) a (jP hkF (fun q hq => (h7 q hq (hlist _ (hfl1 q hq).1)).1))
    obtain ⟨_, g2, g3, g4, g5⟩ := h7 q hq (hlist _ (hfl1 q hq).1)
    refine ⟨g2, g3, g4, fun j hj hjd v hv x hx => ?_, fun x hx => by cases hx⟩
    have hjp := hcsp j hj
    rcases gZ hv with ⟨j', hj', e0, e1, e2⟩ | e1
    · have hj2 : j' ∈ pre := by simpa using hj'
      have : j' = j := cP hdr (Nat.lt_of_lt_of_le (hplan j' (hpre j' hj2)).1 hpl) (Nat.lt_of_lt_of_le (hplan j hjp).1 hpl) e0 hjd e1
      subst this; subst e2
      exact g5 j' hj2 (by simpa using hj) x hx
    · rw [hfree j (hplan j hjp).1 hjd] at e1; cases e1
  refine wp_region_any hm ?_
  have key : ∀ (fuel : Nat) (listed : Array Bool) (a : Act) (w' : World), listed.size = l.length → left l.length listed ≤ fuel → Kn n f0 a → (∀ i, p ≤ i → i < l.length → listed.getD i false = false) → (∀ i, listed.getD i false = true → i < p) →
      (∀ i j, listed.getD i false = true → depB l i j = true → listed.getD j false = true) → w.heap.size ≤ w'.heap.size →
      (∃ pre rest vs, ∃ bs : Nat → Nat, plan = pre ++ rest ∧ (∀ c r, rest = c :: r → cs.contains c = true) ∧ PA P n l p T (fun x => x < w.heap.size ∨ fl = []) (fun i => cs.contains i) (fun f' w' => ∀ w2, Keep [] w' w2 → FinA P fin n k l p w.heap.size cs f' fl [] f' w2) rest (dpF l vs pre.reverse ++ f0) w' ∧
        (∀ i, i ∈ pre → cs.contains i = false → RdOkA P n l T f0 pre vs w' i) ∧ (∀ i, i ∈ pre → cs.contains i = true → listed.getD i false = true) ∧ (∀ i, listed.getD i false = true → (∃ q, q ∈ fl ∧ q.1 = i) ∨ i ∈ pre ∧ (hasDst l i = true → a.tmps.getD (dstOf l i) undef = vs i)) ∧
        (∀ q, q ∈ fl → listed.getD q.1 false = true → a.tmps.getD (dstOf l q.1) undef = .pointer (some ⟨bs q.1, 0, none⟩) ∧ w.heap.size ≤ bs q.1 ∧ bs q.1 < w'.heap.size ∧ Bk w' (bs q.1) q.2.1 q.2.2 ∧ ∀ j, j ∈ pre → cs.contains j = true → ∀ x, x ∈ cblk (vs j) → x ≠ bs q.1) ∧
        (∀ j, j ∈ pre → cs.contains j = true → ∀ x, x ∈ cblk (vs j) → x < w'.heap.size) ∧
        (∀ q q', q ∈ fl → q' ∈ fl → listed.getD q.1 false = true → listed.getD q'.1 false = true → q.1 ≠ q'.1 → bs q.1 ≠ bs q'.1)) →
      wpAny P .any l.toArray (KQ P fin k) fuel listed a w' := by
    intro fuel
    induction fuel with
    | zero =>
      intro listed a w' hs hle hk hun hlp hcl hsz hst
      have hlist : ∀ i, i < l.length → listed.getD i false = true := by
        intro i hi
        cases hc : listed.getD i false with
        | true => rfl
        | false =>
          exfalso
          have := dY hi hs (by rw [bL hs hi true false]; exact hc)
          omega
      have hpe : p = l.length := by
        rcases Nat.lt_or_ge p l.length with h1 | h1
        · have := hun p (Nat.le_refl _) h1; rw [hlist p h1] at this; cases this
        · omega
      refine gG hdr ht 0 p 0 listed a w' (by omega) hpl (Nat.le_refl _) (Nat.le_refl _) hs (fun i hi => by rw [hlist i hi]; simp; omega) ?_
      exact hend listed a w' hk (fun i hi => hlist i (by omega)) hsz hst
    | succ fuel ih =>
      intro listed a w' hs hle hk hun hlp hcl hsz hst
      by_cases hfull : ∀ i, i < p → listed.getD i false = true
      · refine gG hdr ht (l.length - p) p (fuel + 1) listed a w' rfl hpl (Nat.le_refl _) ?_ hs (fun i hi => ?_) (hend listed a w' hk hfull hsz hst)
        · refine Nat.le_trans ?_ hle
          unfold left
          have e1 : l.length - p = ((List.range' p (l.length - p)).countP fun i => !listed.getD i true) := by
            rw [List.countP_eq_length.2 (fun i hi => ?_)]
            · simp
            · rw [List.mem_range'_1] at hi
              rw [bL hs (by omega) true false, hun i (by omega) (by omega)]; rfl
          rw [e1]
          have e2 : List.range l.length = List.range p ++ List.range' p (l.length - p) := by
            have e3 := List.range'_append_1 (s := 0) (m := p) (n := l.length - p)
            rw [Nat.zero_add] at e3
            rw [List.range_eq_range', List.range_eq_range', e3]; congr 1; omega
          rw [e2, List.countP_append]; omega
        · by_cases hip : i < p
          · rw [hfull i hip]; simp [hip]
          · rw [hun i (by omega) hi]; simp [hip]
      · obtain ⟨pre, rest, vs, bs, h1, h2, h3, h4, h5, h6, h7, h8, h9⟩ := hst
        have hnf : ∀ c, c ∈ plan → ¬ ∃ q, q ∈ fl ∧ q.1 = c := fun c hc ⟨q, hq, he⟩ => (hfl1 q hq).2 (he ▸ hc)
        obtain ⟨q, hq⟩ := Classical.not_forall.1 hfull
        obtain ⟨hq1, hq2⟩ := Classical.not_imp.1 hq
        have hq2 : listed.getD q false = false := eq_false_of_ne_true hq2
        refine ⟨fun hr => (by
          have := eX hdr rfl hs hr q (by omega)
          rw [hq2] at this; cases this), fun i hi => ?_⟩
        obtain ⟨h0, o, ho, hedge⟩ := mem_ready.1 hi
        have ho' : l[i]? = some o := by simpa using ho
        have hlt : i < l.length := (List.getElem?_eq_some_iff.1 ho').1
        have hdepl : ∀ j, depB l i j = true → listed.getD j false = true := by
          intro j hj
          simp only [depB, ho'] at hj
          obtain ⟨e, he, h7⟩ := List.any_eq_true.1 hj
          simp only [Bool.and_eq_true, beq_iff_eq] at h7
          have := hedge e (Array.mem_toList_iff.1 he) h7.2
          rwa [h7.1] at this
        have hip : i < p := by
          rcases Nat.lt_or_ge i p with h7 | h7
          · exact h7
          · exfalso
            rcases Nat.lt_or_ge p i with h8 | h8
            · have := hdepl _ (gg ht hlt h8)
              rw [hun (i - 1) (by omega) (by omega)] at this; cases this
            · have hpi : i = p := by omega
              have := mN (S := fun j => listed.getD j false = true) ht (by omega) (fun m j hm hd => hm.elim (fun e => hdepl j (by rw [hpi, ← e]; exact hd)) (fun hl => hcl m j hl hd)) _ q hq1 rfl
              rw [hq2] at this; cases this
        have hil : listed.getD i false = false := by rw [bL hs hlt false true]; exact h0
        have hidn : ∀ d, o.dst = some d → hasDst l i = true ∧ dstOf l i = d ∧ d < n := by
          intro d hd
          have hdd : dstOf l i = d := by simp [dstOf, ho', hd]
          refine ⟨by simp [hasDst, ho', hd], hdd, ?_⟩
          have h8 := List.all_eq_true.1 hdr i (List.mem_range.2 hlt)
          simp only [ho', Bool.and_eq_true] at h8
          rw [hdd] at h8
          exact ba h8.1.1
        have hids : hasDst l i = true → ∃ d, o.dst = some d := by
          intro hid
          unfold hasDst at hid; rw [ho'] at hid
          cases hd : o.dst with
          | none => rw [Option.bind_some, hd] at hid; cases hid
          | some d => exact ⟨d, rfl⟩
        have hleft := dY hlt hs h0
        have hun' : ∀ j, p ≤ j → j < l.length → (listed.setIfInBounds i true).getD j false = false := fun j h1 h2 => by rw [getD_set_ne false (by omega)]; exact hun j h1 h2
        have hlp' : ∀ j, (listed.setIfInBounds i true).getD j false = true → j < p := by
          intro j hj
          by_cases hij : i = j
          · subst hij; exact hip
          · rw [getD_set_ne false hij] at hj; exact hlp j hj
        have hcl' : ∀ m j, (listed.setIfInBounds i true).getD m false = true → depB l m j = true → (listed.setIfInBounds i true).getD j false = true := by
          intro m j hm hd
          have hj : listed.getD j false = true := by
            by_cases him : i = m
            · exact hdepl j (him ▸ hd)
            · rw [getD_set_ne false him] at hm; exact hcl m j hm hd
          by_cases hij : i = j
          · subst hij; rw [hil] at hj; cases hj
          · rw [getD_set_ne false hij]; exact hj
        have hput : ∀ v, hasDst l i = true → (a.put o.dst v).tmps.getD (dstOf l i) undef = v := by
          intro v hid
          obtain ⟨d, hod⟩ := hids hid
          obtain ⟨_, hdd, hdn⟩ := hidn d hod
          rw [hdd, hod]; simp [Act.put, Array.getD_eq_getD_getElem?, hk.size, hdn]
        have hputo : ∀ v j, j < p → hasDst l j = true → i ≠ j → (a.put o.dst v).tmps.getD (dstOf l j) undef = a.tmps.getD (dstOf l j) undef := by
          intro v j hj hdj hij
          cases hod : o.dst with
          | none => rfl
          | some d =>
            obtain ⟨hid, hdd, hdn⟩ := hidn d hod
            have hne : d ≠ dstOf l j := fun e => hij (cP hdr hlt (by omega) hid hdj (by rw [hdd, e]))
            simp only [Act.put, Array.getD_eq_getD_getElem?]; rw [Array.getElem?_setIfInBounds_ne hne]
        have hkput : ∀ v, Kn n f0 (a.put o.dst v) := by
          intro v
          cases hod : o.dst with
          | none => exact hk
          | some d =>
            obtain ⟨hid, hdd, hdn⟩ := hidn d hod
            exact hk.putOther (by rw [← hdd]; exact hfree i hip hid) v
        have hpre : ∀ j, j ∈ pre → j ∈ plan := fun j hj => by rw [h1]; simp [hj]
        have hpredep : ∀ j, depB l i j = true → j ∈ pre → hasDst l j = true → a.tmps.getD (dstOf l j) undef = vs j := fun j hj hjp hjd => (h6 j (hdepl j hj)).elim (fun h => absurd h (hnf j (hpre j hjp))) (fun h => h.2 hjd)
        have hfd : ∀ q, q ∈ fl → hasDst l q.1 = true := by
          intro q hq
          obtain ⟨d, ty, pos, aft, s, by_, hg, _⟩ := hfl q hq
          unfold hasDst; rw [hg]; rfl
        have step : ∀ f1, Kn n f1 a → ∀ R : Value → World → Prop, PStep P n l.toArray o f1 w' R → (∀ v w2, R v w2 → wpAny P .any l.toArray (KQ P fin k) fuel (listed.setIfInBounds i true) (a.put o.dst v) w2) → wpOp P l.toArray (KQ P fin k) i (wpAny P .any l.toArray (KQ P fin k) fuel (listed.setIfInBounds i true)) a w' := by
          intro f1 hkf R hp hn
          obtain ⟨p1, p2⟩ := hp a hkf (wpAny P .any l.toArray (KQ P fin k) fuel (listed.setIfInBounds i true)) (KQ P fin k) hn
          unfold wpOp
          rw [ho]
          simp only
          by_cases hw : Region.wanted o (yielded l.toArray a.tmps) = true
          · rw [if_pos hw]; exact .inl (p1 hw)
          · rw [if_neg hw]; exact p2 (eq_false_of_ne_true hw)
        rcases hmem i hip with hpl1 | ⟨q, hqf, hqi⟩
        · have hpm := hpl1
          rw [h1] at hpm
          have hifl : ∀ q, q ∈ fl → i ≠ q.1 := fun q hq e => hnf i hpl1 ⟨q, hq, e.symm⟩
          rcases List.mem_append.1 hpm with hpre1 | hrs
          · have hcb : cs.contains i = false := by
              cases hc : cs.contains i with
              | false => rfl
              | true => have := h5 i hpre1 hc; rw [hil] at this; cases this
            obtain ⟨o2, f1, g1, g2, g3⟩ := h4 i hpre1 hcb
            rw [ho'] at g1
            simp only [Option.some.injEq] at g1
            subst g1
            refine step f1 (hD hk g2 hpredep) _ (g3 w' (Keep.refl _ _)) ?_
            rintro v w2 ⟨rfl, rfl⟩
            refine ih _ _ _ (by simpa using hs) (by omega) (hkput _) hun' hlp' hcl' hsz ⟨pre, rest, vs, bs, h1, h2, h3, h4, fun j hj hc => ?_, fun j hj => ?_, fun q hq hlq => ?_, h8, fun q q' hq hq' hl1 hl2 => ?_⟩
            · by_cases hij : i = j
              · subst hij; rw [hcb] at hc; cases hc
              · rw [getD_set_ne false hij]; exact h5 j hj hc
            · by_cases hij : i = j
              · subst hij; exact .inr ⟨hpre1, hput _⟩
              · rw [getD_set_ne false hij] at hj
                rcases h6 j hj with h | ⟨m1, m2⟩
                · exact .inl h
                · have hpj := hplan j (hpre j m1)
                  exact .inr ⟨m1, fun hjd => by rw [hputo _ j hpj.1 hjd hij]; exact m2 hjd⟩
            · rw [getD_set_ne false (hifl q hq)] at hlq
              obtain ⟨m1, m2⟩ := h7 q hq hlq
              exact ⟨by rw [hputo _ q.1 (hfl1 q hq).1 (hfd q hq) (hifl q hq)]; exact m1, m2⟩
            · rw [getD_set_ne false (hifl q hq)] at hl1
              rw [getD_set_ne false (hifl q' hq')] at hl2
              exact h9 q q' hq hq' hl1 hl2
          · cases rest with
            | nil => cases hrs
            | cons c r =>
              have hcc := h2 c r rfl
              rw [h1] at heag
              obtain ⟨he1, he2⟩ := cJ heag
              rcases List.mem_cons.1 hrs with hic | hir
              · subst hic
                have h30 := h3
                unfold PA at h30
                obtain ⟨o2, f1, g1, g2, g3, g4⟩ := h30
                rw [ho'] at g1
                simp only [Option.some.injEq] at g1
                subst g1
                rcases g4 with ⟨_, g4⟩ | ⟨g4, _⟩
                · have hlk := kw (f0 := f0) hdr hpl (fun j hj => (hplan j (hpre j hj)).1) g2 g3
                  refine step f1 (hD hk hlk hpredep) _ (g4 w' (Keep.refl _ _)) ?_
                  rintro v w2 ⟨hkw, hcv, hpw⟩
                  have hni : i ∉ pre := fun hm => he2 i hm (by simp)
                  have hnr : i ∉ pre.reverse := by simpa using hni
                  have hmm : ∀ j, j ∈ pre → j ∈ pre ++ [i] ∧ setV vs i v j = vs j := fun j hj => ⟨by simp [hj], dJ vs v (fun e => hni (e ▸ hj))⟩
                  obtain ⟨pre', rest', vs', k1, k2, k3, k4, k5, k6⟩ := absorbA (f0 := f0) (T := T) (O := (fun x => x < w.heap.size ∨ fl = [])) (cb := fun i => cs.contains i) hdr hpl r (pre ++ [i]) (setV vs i v) w2 (by rw [List.append_assoc, List.singleton_append]; exact heag) (by rw [List.append_assoc, List.singleton_append, ← h1]; exact hplan)
                    (by rw [List.reverse_append, List.reverse_singleton, List.singleton_append, iN, ci, fh hnr]; exact hpw)
                    (fun j hj hcj => by
                      rcases List.mem_append.1 hj with h | h
                      · exact (h4 j h hcj).mono h hmm hkw
                      · rw [List.mem_singleton] at h
                        subst h; rw [hcc] at hcj; cases hcj)
                  have hsame : ∀ j, j ∈ pre → j ∈ pre' ∧ vs' j = vs j := fun j hj => ⟨(k2 j (hmm j hj).1).1, ((k2 j (hmm j hj).1).2).trans (hmm j hj).2⟩
                  have hci := k2 i (by simp)
                  rw [ci] at hci
                  have hcall : ∀ j, j ∈ pre' → cs.contains j = true → j ∈ pre ∧ vs' j = vs j ∨ j = i := by
                    intro j hj hc
                    rcases k3 j hj with h | h
                    · rcases List.mem_append.1 h with h | h
                      · exact .inl ⟨h, (hsame j h).2⟩
                      · rw [List.mem_singleton] at h; exact .inr h
                    · rw [hc] at h; cases h
                  refine ih _ _ _ (by simpa using hs) (by omega) (hkput _) hun' hlp' hcl' (Nat.le_trans hsz hkw.size) ⟨pre', rest', vs', bs, by rw [← k1, h1]; simp, k4, k5, k6, fun j hj hc => ?_, fun j hj => ?_, fun q hq hlq => ?_, fun j hj hc x hx => ?_, fun q q' hq hq' hl1 hl2 => ?_⟩
                  · by_cases hij : i = j
                    · subst hij
                      rw [Array.getD_eq_getD_getElem?]; simp [hs, hlt]
                    · rw [getD_set_ne false hij]
                      rcases hcall j hj hc with h | h
                      · exact h5 j h.1 hc
                      · exact absurd h.symm hij
                  · by_cases hij : i = j
                    · subst hij; exact .inr ⟨hci.1, fun hid => by rw [hput _ hid, hci.2]⟩
                    · rw [getD_set_ne false hij] at hj
                      rcases h6 j hj with h | ⟨m1, m2⟩
                      · exact .inl h
                      · have hpj := hplan j (hpre j m1)
                        exact .inr ⟨(hsame j m1).1, fun hjd => by rw [hputo _ j hpj.1 hjd hij, (hsame j m1).2]; exact m2 hjd⟩
                  · rw [getD_set_ne false (hifl q hq)] at hlq
                    obtain ⟨m1, m2, m3, m4, m5⟩ := h7 q hq hlq
                    refine ⟨by rw [hputo _ q.1 (hfl1 q hq).1 (hfd q hq) (hifl q hq)]; exact m1, m2, Nat.lt_of_lt_of_le m3 hkw.size, m4.keep hkw (fun hm => by have := hT _ hm; omega), fun j hj hc x hx => ?_⟩
                    rcases hcall j hj hc with ⟨h, e⟩ | h
                    · rw [e] at hx; exact m5 j h hc x hx
                    · subst h
                      rw [hci.2] at hx
                      have := (hcv x hx).1
                      intro e
                      rcases this with (h3 | h3) | h3
                      · omega
                      · rw [h3] at hq; cases hq
                      · omega
                  · rcases hcall j hj hc with ⟨h, e⟩ | h
                    · rw [e] at hx; exact Nat.lt_of_lt_of_le (h8 j h hc x hx) hkw.size
                    · subst h
                      rw [hci.2] at hx
                      exact (hcv x hx).2
                  · rw [getD_set_ne false (hifl q hq)] at hl1
                    rw [getD_set_ne false (hifl q' hq')] at hl2
                    exact h9 q q' hq hq' hl1 hl2
                · rw [hcc] at g4; cases g4
              · exfalso
                simp only [eager, Bool.and_eq_true] at he1
                have h7 := he1.1.2
                rw [hcc, Bool.not_true, Bool.false_or] at h7
                have h8 := List.all_eq_true.1 h7 i hir
                obtain ⟨j, hj, hdj⟩ := List.any_eq_true.1 h8
                have hjp : j ∈ plan := by rw [h1]; exact List.mem_append_right _ hj
                rcases h6 j (hdepl j hdj) with h | h
                · exact hnf j hjp h
                · exact he2 j h.1 hj
        · subst hqi
          obtain ⟨d', ty, pos, aft, s, by_, hg, hTy⟩ := hfl q hqf
          rw [hg] at ho'
          simp only [Option.some.injEq] at ho'
          have hnp : q.1 ∉ pre := fun hm => (hfl1 q hqf).2 (hpre _ hm)
          refine step [] ⟨hk.size, hk.defers, fun t v h => by cases h⟩ (fun v' w2 => ∃ b, v' = .pointer (some ⟨b, 0, none⟩) ∧ b = w'.heap.size ∧ Bk w2 b q.2.1 q.2.2 ∧ Keep [] w' w2 ∧ w2.heap.size = w'.heap.size + 1) ?_ ?_
          · subst ho'
            intro a1 ha1 K Q hK
            refine ⟨fun _ => ab (n := n) (f := []) hTy a1 ha1 _ _ _ _ K Q hK, fun h => by simp [Region.wanted] at h⟩
          · rintro v w2 ⟨b, rfl, rfl, hb, hkb, hsb⟩
            have hqne : ∀ q', q' ∈ fl → q'.1 ≠ q.1 → q.1 ≠ q'.1 := fun q' _ h e => h e.symm
            refine ih _ _ _ (by simpa using hs) (by omega) (hkput _) hun' hlp' hcl' (by omega) ⟨pre, rest, vs, setB bs q.1 w'.heap.size, h1, h2, PA.grow hgrow _ _ _ _ hkb h3, fun j hj hc => (h4 j hj hc).mono hj (fun j hj => ⟨hj, rfl⟩) hkb.weak, fun j hj hc => ?_, fun j hj => ?_, fun q' hq' hlq => ?_, fun j hj hc x hx => by have := h8 j hj hc x hx; omega, fun q1 q2 hq1 hq2 hl1 hl2 hne => ?_⟩
            · rw [getD_set_ne false (fun e => hnp (by rw [e]; exact hj))]; exact h5 j hj hc
            · by_cases hij : q.1 = j
              · exact .inl ⟨q, hqf, hij⟩
              · rw [getD_set_ne false hij] at hj
                rcases h6 j hj with h | ⟨m1, m2⟩
                · exact .inl h
                · have hpj := hplan j (hpre j m1)
                  exact .inr ⟨m1, fun hjd => by rw [hputo _ j hpj.1 hjd hij]; exact m2 hjd⟩
            · by_cases hqq : q.1 = q'.1
              · have hqe : q' = q := nx hnd hqf hq' hqq
                subst hqe
                refine ⟨by rw [hput _ (hfd q' hqf), cL], by rw [cL]; omega, by rw [cL]; omega, by rw [cL]; exact hb, fun j hj hc x hx => ?_⟩
                rw [cL]
                have := h8 j hj hc x hx
                omega
              · rw [getD_set_ne false hqq] at hlq
                obtain ⟨m1, m2, m3, m4, m5⟩ := h7 q' hq' hlq
                rw [cr bs _ (Ne.symm hqq)]
                exact ⟨by rw [hputo _ q'.1 (hfl1 q' hq').1 (hfd q' hq') hqq]; exact m1, m2, by omega, m4.pK hkb, m5⟩
            · by_cases e1 : q.1 = q1.1
              · have e2 : q.1 ≠ q2.1 := fun e => hne (e1.symm.trans e)
                rw [getD_set_ne false e2] at hl2
                rw [← e1, cL, cr bs _ (Ne.symm e2)]
                have := (h7 q2 hq2 hl2).2.2.1
                omega
              · rw [getD_set_ne false e1] at hl1
                rw [cr bs _ (Ne.symm e1)]
                by_cases e2 : q.1 = q2.1
                · rw [← e2, cL]
                  have := (h7 q1 hq1 hl1).2.2.1
                  omega
                · rw [getD_set_ne false e2] at hl2
                  rw [cr bs _ (Ne.symm e2)]
                  exact h9 q1 q2 hq1 hq2 hl1 hl2 hne
  obtain ⟨pre', rest', vs', k1, k2, k3, k4, k5, k6⟩ := absorbA (f0 := f0) (T := T) (O := (fun x => x < w.heap.size ∨ fl = [])) (cb := fun i => cs.contains i) hdr hpl plan [] (fun _ => undef) _ heag hplan (h _ (cj w)) (fun i hi => by cases hi)
  have hemp : ∀ i, ¬ (Array.replicate l.toArray.size false).getD i false = true := by
    intro i hi
    rw [Array.getD_eq_getD_getElem?] at hi
    rcases Nat.lt_or_ge i l.toArray.size with h' | h'
    · rw [Array.getElem?_eq_getElem (by simpa using h')] at hi; simp at hi
    · rw [Array.getElem?_eq_none (by simpa using h')] at hi; simp at hi
  refine key _ _ a _ (by simp) ?_ ha0 ?_ (fun i hi => absurd hi (hemp i)) (fun i _ hi => absurd hi (hemp i)) (Nat.le_refl _) ⟨pre', rest', vs', fun _ => 0, k1, k4, k5, k6, fun i hi hc => ?_, fun i hi => absurd hi (hemp i), fun q _ hq => absurd hq (hemp _), fun j hj hc => ?_, fun q q' _ _ hq => absurd hq (hemp _)⟩
  · unfold left
    have := List.countP_le_length (p := fun i => !(Array.replicate l.toArray.size false).getD i true) (l := List.range l.length)
    simpa using this
  · intro i _ hi
    rw [Array.getD_eq_getD_getElem?, Array.getElem?_eq_getElem (by simpa using hi)]; simp
  · rcases k3 i hi with h | h
    · cases h
    · rw [hc] at h; cases h
  · rcases k3 j hj with h | h
    · cases h
    · rw [hc] at h; cases h
end
end Go.Eng
namespace Go.Eng
open Go Go.IntWalk
section
variable {P : Program} {n : Nat} {f : Fr} {w : World} {ty : TypeId} {fin : Exit → Act → World → Prop} {k : List KI} {l : List Oper} {p s0 : Nat} {O : Nat → Prop} {T cs r : List Nat} {Fin : Fr → World → Prop} {i : Nat}
theorem cC {fl : List (Nat × TypeId × List Value)} (h : ∀ w2, Keep [] w w2 → FinA P fin n k l p s0 cs f fl [] f w2) : PA P n l p T O (fun i => cs.contains i) (fun f' w' => ∀ w2, Keep [] w' w2 → FinA P fin n k l p s0 cs f' fl [] f' w2) [] f w := by unfold PA; exact h
theorem bK {fc : Fr} {seen : List Nat} (h : OW P fin n k l.toArray (l.drop p) f w) : FinA P fin n k l p s0 cs fc [] seen f w := h
theorem ei {d : Nat} {op : Op} {pos : String} {aft : Array Edge} {g : Option (Nat × Bool)} {v : Value} {f : Fr} (ho : l[i]? = some ⟨some d, op, ty, pos, aft, g⟩) : frPut l i v f = (d, v) :: f := by
 unfold frPut hasDst; rw [ho, iM ho]; rfl
theorem iZ (f1 : Fr) {op : Op} {d : Nat} {pos : String} {aft : Array Edge} {v : Value} (ho : l[i]? = some ⟨some d, op, ty, pos, aft, none⟩) (hc : cs.contains i = false) (hs : Fr.sub f1 f) (hk : slotsOk l p i f1 = true)
   (hr : ∀ w', Keep T w w' → Gives P n f1 w' op ty v w') (h : PA P n l p T O (fun i => cs.contains i) Fin r ((d, v) :: f) w) : PA P n l p T O (fun i => cs.contains i) Fin (i :: r) f w := by
 unfold PA
 exact ⟨_, f1, ho, hs, hk, .inr ⟨hc, v, fun w' hw => l8 (hr w' hw), by rw [ei ho]; exact h⟩⟩
theorem lb (f1 : Fr) {op : Op} {d : Nat} {pos : String} {aft : Array Edge} {kd : IntKind} {e e' lo hi : Int} (ho : l[i]? = some ⟨some d, op, ty, pos, aft, none⟩) (hc : cs.contains i = false) (hs : Fr.sub f1 f) (hk : slotsOk l p i f1 = true)
   (hr : ∀ w', Keep T w w' → Gives P n f1 w' op ty (.int kd e) w') (he : e = e') (hb : In e' lo hi) (h : ∀ z, Eqn z e' → In z lo hi → PA P n l p T O (fun i => cs.contains i) Fin r ((d, .int kd z) :: f) w) : PA P n l p T O (fun i => cs.contains i) Fin (i :: r) f w := by
 subst he; exact iZ f1 ho hc hs hk hr (h _ rfl hb)
theorem bY (f1 : Fr) {op : Op} {d : Nat} {pos : String} {aft : Array Edge} (ho : l[i]? = some ⟨some d, op, ty, pos, aft, none⟩) (hc : cs.contains i = true) (hs : Fr.sub f1 f) (hk : slotsOk l p i f1 = true)
   (hr : ∀ w1, Keep [] w w1 → Does P n f1 w1 op ty (fun v w' => Keep T w1 w' ∧ (∀ x, x ∈ cblk v → (O x ∨ w1.heap.size ≤ x) ∧ x < w'.heap.size) ∧ PA P n l p T O (fun i => cs.contains i) Fin r ((d, v) :: f) w')) : PA P n l p T O (fun i => cs.contains i) Fin (i :: r) f w := by
 unfold PA
 refine ⟨_, f1, ho, hs, hk, .inl ⟨hc, fun w1 k1 a ha K Q hK => ⟨fun _ => ?_, fun h => by simp [Region.wanted] at h⟩⟩⟩
 exact hr w1 k1 a ha _ _ _ _ _ _ (fun v w' hv => hK _ _ ⟨hv.1, hv.2.1, by rw [ei ho]; exact hv.2.2⟩)
theorem pa_d0 (f1 : Fr) {op : Op} {pos : String} {aft : Array Edge} (ho : l[i]? = some ⟨none, op, ty, pos, aft, none⟩) (hc : cs.contains i = true) (hs : Fr.sub f1 f) (hk : slotsOk l p i f1 = true)
   (hr : ∀ w1, Keep [] w w1 → Does P n f1 w1 op ty (fun v w' => Keep T w1 w' ∧ PA P n l p T O (fun i => cs.contains i) Fin r f w')) : PA P n l p T O (fun i => cs.contains i) Fin (i :: r) f w := by
 unfold PA
 refine ⟨_, f1, ho, hs, hk, .inl ⟨hc, fun w1 k1 a ha K Q hK => ⟨fun _ => ?_, fun h => by simp [Region.wanted] at h⟩⟩⟩
 refine hr w1 k1 a ha none pos aft none K Q (fun v w' hv => ?_)
 have e : frPut l i undef f = f := by unfold frPut hasDst; rw [ho]; rfl
 exact hK undef w' ⟨hv.1, (fun x hx => by cases hx), (by rw [e]; exact hv.2)⟩
theorem nq (d : Nat) (want : Bool) {b : Bool} (_hf : f.get d = some (.bool b)) {pl : List Nat} (h : ∀ c, c = (b == want) → PA P n l p T O (fun i => cs.contains i) Fin pl f w) : PA P n l p T O (fun i => cs.contains i) Fin pl f w := h _ rfl
theorem lc (d : Nat) (want : Bool) {b c' : Bool} (_hf : f.get d = some (gv c' (.bool b))) {pl : List Nat} (h : ∀ c, c = (c' && (b == want)) → PA P n l p T O (fun i => cs.contains i) Fin pl f w) : PA P n l p T O (fun i => cs.contains i) Fin pl f w := h _ rfl
theorem eu (f1 f2 : Fr) {op : Op} {d : Nat} {pos : String} {aft : Array Edge} {j : Nat} {want c : Bool} {v : Value} (ho : l[i]? = some ⟨some d, op, ty, pos, aft, some (j, want)⟩) (hc : cs.contains i = false) (hs : Fr.sub f1 f) (hk : slotsOk l p i f1 = true)
   (hG : Grd n l.toArray f1 j want c) (hu : UndF c f2 f1) (hr : c = true → ∀ w', Keep T w w' → Gives P n f2 w' op ty v w') (h : PA P n l p T O (fun i => cs.contains i) Fin r ((d, gv c v) :: f) w) : PA P n l p T O (fun i => cs.contains i) Fin (i :: r) f w := by
 unfold PA
 refine ⟨_, f1, ho, hs, hk, .inr ⟨hc, gv c v, fun w' hw a ha K Q hK => ?_, by rw [ei ho]; exact h⟩⟩
 have hg := hG a ha
 have hwt : Region.wanted ⟨some d, op, ty, pos, aft, some (j, want)⟩ (yielded l.toArray a.tmps) = c := hg
 rw [hwt]
 refine ⟨fun hct => ?_, fun hcf => ?_⟩
 · unfold Oper.wp
   rw [hr hct w' hw a (ha.undF hct hu)]
   exact hK _ _ ⟨(fZ hct).symm, rfl⟩
 · exact hK _ _ ⟨(f9 hcf).symm, rfl⟩
end
end Go.Eng
namespace Go.Eng
open Go Go.IntWalk
section
variable {P : Program} {n : Nat} {f : Fr} {w : World} {ty : TypeId} {fin : Exit → Act → World → Prop} {k : List KI} {l : List Oper} {p s0 : Nat} {O : Nat → Prop} {T cs r : List Nat} {Fin : Fr → World → Prop} {i : Nat}
theorem af (t : Nat) {op : Op} {d : Nat} {pos : String} {aft : Array Edge} {v v0 : Value} (ho : l[i]? = some ⟨some d, op, ty, pos, aft, none⟩) (hc : cs.contains i = false) (hs : f.get t = some v0) (hk : slotsOk l p i [(t, v0)] = true)
   (hr : ∀ w', Keep T w w' → Gives P n [(t, v0)] w' op ty v w') (h : PA P n l p T O (fun i => cs.contains i) Fin r ((d, v) :: f) w) : PA P n l p T O (fun i => cs.contains i) Fin (i :: r) f w := iZ [(t, v0)] ho hc ⟨hs, trivial⟩ hk hr h
theorem ao (t : Nat) {op : Op} {d : Nat} {pos : String} {aft : Array Edge} {v v0 : Value} (ho : l[i]? = some ⟨some d, op, ty, pos, aft, none⟩) (hc : cs.contains i = false) (hs : f.get t = some v0) (hk : slotsOk l p i [(t, v0)] = true)
   (hr : ∀ w', Keep T w w' → Gives P n [(t, v0)] w' op ty v w') (h : PW P n l p T (fun i => cs.contains i) Fin r ((d, v) :: f) w) : PW P n l p T (fun i => cs.contains i) Fin (i :: r) f w := mb [(t, v0)] ho hc ⟨hs, trivial⟩ hk hr h
theorem cK (t : Nat) {x : Operand} {d : Nat} {pos : String} {aft : Array Edge} {v v0 : Value} (ho : l[i]? = some ⟨some d, .move x, ty, pos, aft, none⟩) (hc : cs.contains i = false) (hs : f.get t = some v0) (hk : slotsOk l p i [(t, v0)] = true)
   (hx : Fr.ev [(t, v0)] x = some v) (h : PA P n l p T O (fun i => cs.contains i) Fin r ((d, v) :: f) w) : PA P n l p T O (fun i => cs.contains i) Fin (i :: r) f w := af t ho hc hs hk (fun _ _ => ax hx) h
theorem dK (t t2 : Nat) {op : Op} {d : Nat} {pos : String} {aft : Array Edge} {v v0 v1 : Value} (ho : l[i]? = some ⟨some d, op, ty, pos, aft, none⟩) (hc : cs.contains i = false) (hs : f.get t = some v0) (hs2 : f.get t2 = some v1) (hk : slotsOk l p i [(t, v0), (t2, v1)] = true)
   (hr : ∀ w', Keep T w w' → Gives P n [(t, v0), (t2, v1)] w' op ty v w') (h : PA P n l p T O (fun i => cs.contains i) Fin r ((d, v) :: f) w) : PA P n l p T O (fun i => cs.contains i) Fin (i :: r) f w := iZ [(t, v0), (t2, v1)] ho hc ⟨hs, hs2, trivial⟩ hk hr h
theorem cQ (t : Nat) {x : Operand} {d : Nat} {pos : String} {aft : Array Edge} {v v0 : Value} (ho : l[i]? = some ⟨some d, .move x, ty, pos, aft, none⟩) (hc : cs.contains i = false) (hs : f.get t = some v0) (hk : slotsOk l p i [(t, v0)] = true)
   (hx : Fr.ev [(t, v0)] x = some v) (h : PW P n l p T (fun i => cs.contains i) Fin r ((d, v) :: f) w) : PW P n l p T (fun i => cs.contains i) Fin (i :: r) f w := ao t ho hc hs hk (fun _ _ => ax hx) h
theorem ct (t t2 : Nat) {op : Op} {d : Nat} {pos : String} {aft : Array Edge} {v v0 v1 : Value} (ho : l[i]? = some ⟨some d, op, ty, pos, aft, none⟩) (hc : cs.contains i = false) (hs : f.get t = some v0) (hs2 : f.get t2 = some v1) (hk : slotsOk l p i [(t, v0), (t2, v1)] = true)
   (hr : ∀ w', Keep T w w' → Gives P n [(t, v0), (t2, v1)] w' op ty v w') (h : PW P n l p T (fun i => cs.contains i) Fin r ((d, v) :: f) w) : PW P n l p T (fun i => cs.contains i) Fin (i :: r) f w := mb [(t, v0), (t2, v1)] ho hc ⟨hs, hs2, trivial⟩ hk hr h
end
end Go.Eng
namespace Go.Eng
open Go Go.IntWalk
theorem ew {k : IntKind} {x y e : Int} (hk : uns k = true) (he : bits .or k x y = e) : In e 0 (kmax k) := he ▸ mA hk _ _ _
theorem lO {k : IntKind} {y a b : Int} (hk : uns k = true) (hy : In y a b) (h0 : decide (0 ≤ a) = true) (hf : fits k a b = true) : bits .or k 0 y = y := by
 have h1 := of_decide_eq_true h0
 have hf' := hf
 simp only [fits, Bool.and_eq_true, decide_eq_true_eq] at hf'
 have hkm : kmax k + 1 = 2 ^ k.bits := by cases k <;> first | (exact absurd hk (by decide)) | rfl
 have hb : y < 2 ^ k.bits := by unfold In at hy; omega
 have h2 := bits_join k k.bits (Nat.le_refl _) (fP hk) k.bits 0 y (Int.le_refl _) (Int.zero_emod _) (Int.pow_pos (by decide)) (by unfold In at hy; omega) hb hb
 rw [h2, Int.zero_add]
section
variable {P : Program} {n : Nat} {f : Fr} {w : World} {ty : TypeId} {fin : Exit → Act → World → Prop} {k : List KI}
theorem kl {fn : Func} {a : Act} {w : World} {t u : Nat} {T U : TypeId} {b c : Addr} {v x : Value} (h : fn.results = #[.cell t T, .cell u U]) (h1 : a.tmps.getD t undef = .pointer (some b)) (h3 : (loadVar T b).run P w = .ok v w) (h2 : a.tmps.getD u undef = .pointer (some c)) (h4 : (loadVar U c).run P w = .ok x w) : (results fn a.tmps).run P w = .ok (.tuple #[v, x]) w := by
 have h1' : (a.tmps[t]?).getD undef = .pointer (some b) := by rw [← Array.getD_eq_getD_getElem?]; exact h1
 have h2' : (a.tmps[u]?).getD undef = .pointer (some c) := by rw [← Array.getD_eq_getD_getElem?]; exact h2
 simp [results, h, h1, h1', h2, h2', asAddr, h3, h4]
theorem nN {fn : Func} {R : Value → World → Prop} (hfin : ∀ a w, (a.defers = [] ∧ ∃ v, (results fn a.tmps).run P w = .ok v w ∧ R v w) → fin .ret a w ∧ fin .normal a w) {t u : Nat} {T U : TypeId} {b c : Addr} {v x : Value} (hres : fn.results = #[.cell t T, .cell u U]) (h1 : f.get t = some (.pointer (some b))) (h3 : (loadVar T b).run P w = .ok v w) (h2 : f.get u = some (.pointer (some c))) (h4 : (loadVar U c).run P w = .ok x w) (hR : R (.tuple #[v, x]) w) :
   TW P fin n (.c .ret :: k) f w := fun a ha => wp_ret (by
 rw [dy]
 exact (hfin a w ⟨ha.defers, _, kl hres (ha.get t _ h1) h3 (ha.get u _ h2) h4, hR⟩).1)
section
variable {l : List Oper} {p s0 i : Nat} {O : Nat → Prop} {T cs r : List Nat} {Fin : Fr → World → Prop}
theorem jJ (f1 f2 : Fr) {op : Op} {d : Nat} {pos : String} {aft : Array Edge} {j : Nat} {want c : Bool} {V : Value} (ho : l[i]? = some ⟨some d, op, ty, pos, aft, some (j, want)⟩) (hc : cs.contains i = true) (hs : Fr.sub f1 f) (hk : slotsOk l p i f1 = true)
   (hG : Grd n l.toArray f1 j want c) (hu : UndF c f2 f1) (hV : cblk V = []) (hr : ∀ w1, Keep [] w w1 → c = true → Does P n f2 w1 op ty (fun v w' => v = V ∧ Keep [] w1 w'))
   (h : ∀ w', Keep [] w w' → PA P n l p T O (fun i => cs.contains i) Fin r ((d, gv c V) :: f) w') : PA P n l p T O (fun i => cs.contains i) Fin (i :: r) f w := by
 unfold PA
 refine ⟨_, f1, ho, hs, hk, .inl ⟨hc, fun w1 k1 a ha K Q hK => ?_⟩⟩
 have hg := hG a ha
 have hwt : Region.wanted ⟨some d, op, ty, pos, aft, some (j, want)⟩ (yielded l.toArray a.tmps) = c := hg
 rw [hwt]
 refine ⟨fun hct => ?_, fun hcf => ?_⟩
 · refine hr w1 k1 hct a (ha.undF hct hu) _ _ _ _ _ _ (fun v w' hv => hK _ _ ⟨hv.2.weak, ?_, ?_⟩)
   · rw [hv.1, hV]; intro x hx; cases hx
   · have := h w' (k1.trans hv.2)
     rw [fZ hct] at this
     rw [ei ho, hv.1]; exact this
 · refine hK _ _ ⟨Keep.refl _ _, (fun x hx => by cases hx), ?_⟩
   have := h w1 k1
   rw [f9 hcf] at this
   rw [ei ho]; exact this
theorem la {x y : Tmp} {d : Nat} {pos : String} {aft : Array Edge} {j dj : Nat} {want c c2 b b2 : Bool} (f1 : Fr) (ho : l[i]? = some ⟨some d, .pick (.tmp x) (.tmp y) (.const (.bool false)), ty, pos, aft, some (j, want)⟩) (hc : cs.contains i = false) (hs : Fr.sub f1 f) (hk : slotsOk l p i f1 = true)
   (hG : Grd n l.toArray f1 j want c) (hx : Und c f1 x (.bool b)) (hy : f1.get y = some (gv c2 (.bool b2))) (hc2 : c2 = (c && (b == true))) (hxy : Nat.beq y x = false)
   (h : PA P n l p T O (fun i => cs.contains i) Fin r ((d, gv c (.bool (b && b2))) :: f) w) : PA P n l p T O (fun i => cs.contains i) Fin (i :: r) f w := by
 cases c with
 | false => exact eu (c := false) f1 [] ho hc hs hk hG trivial (fun h => by cases h) h
 | true =>
   have hc2' : c2 = (b == true) := by rw [hc2, Bool.true_and]
   obtain ⟨u, hu, hu'⟩ := hx
   have hu2 := hu' rfl
   subst hu2
   refine eu f1 [(y, gv c2 (.bool b2)), (x, .bool b)] ho hc hs hk hG ⟨fu hy, fu hu, trivial⟩ (fun _ w' _ => kz (x := .tmp x) (y := .tmp y) ?_ ?_ hc2') h
   · show Fr.get _ x = _
     simp only [Fr.get, hxy, cond_false, Nat.beq_refl, cond_true]
   · show Fr.get _ y = _
     simp only [Fr.get, Nat.beq_refl, cond_true]
end
theorem g_sap {x : Operand} {t e : TypeId} {m : Nat} {s m' : Nat} {v : Value} {cs : List Value} (ht : P.underlying t = some (.array m e)) (hx : f.ev x = some v) (hr : Rd w s v m' cs) (h : Nat.ble m m' = true) (h0 : Nat.blt 0 m = true) :
   Gives P n f w (.sliceToArrayPointer t x) ty (.pointer (some (ea v 0))) w := by
 intro a ha dst pos aft g
 obtain ⟨A, c, rfl, h1, h2, h3, h4, h5⟩ := hr
 have hle := Nat.le_of_ble_eq_true h
 have hlt := ba h0
 cases A with
 | none => have := h4 rfl; omega
 | some a0 =>
   have hn : ¬ m' < m := by omega
   simp [execOp, ha.ev hx, Instr.arrayAt, run_underlying ht, hn, ea, Addr.add]
theorem oS {x : Operand} {t : TypeId} {zs : List Value} {s b : Nat} {v : Value} {xs : List UInt8} (ht : agB P t = true) (hs : Ty P t zs s b) (hx : f.ev x = some (.pointer (some (ea v 0)))) (hr : RdB w v xs) (hl : xs.length = s) (h0 : Nat.blt 0 s = true) :
   Gives P n f w (.load t x) ty (.agg (bv xs).toArray) w := by
 refine oT ht hs hx ?_ (by rw [bM]; exact hl)
 obtain ⟨A, c, rfl, h1, h2, h3, h4, h5⟩ := hr
 have hlt := ba h0
 cases A with
 | none => have := h4 rfl; omega
 | some a0 => have := h5 a0 rfl; simpa [ea, Addr.add] using this
theorem g_eqB {t e u : TypeId} {m : Nat} {x y : Operand} {xs ys : List UInt8} (ht : P.underlying t = some (.array m e)) (he : P.underlying e = some (.int .u8)) (hs : ∀ w, (sizeOf e).run P w = .ok 1 w) (hg : P.eqGuardType P.depth t = false)
   (hx : f.ev x = some (.agg (bv xs).toArray)) (hy : f.ev y = some (.agg (bv ys).toArray)) (hxl : xs.length = m) (hyl : ys.length = m) :
   Gives P n f w (.binOp .eql t x y u) ty (.bool (decide (xs = ys))) w :=
 br hx hy (fun x y => run_eqGuard_agg w _ _ _ _ _ _ hg) (by
   have := run_eql_bytes (P := P) w t e m ht he hs xs ys hxl hyl
   have e1 : (xs == ys) = decide (xs = ys) := by cases h : xs == ys <;> simp_all
   rw [e1] at this
   exact this)
end
end Go.Eng
namespace Go.Eng
open Go Go.IntWalk
section
variable {P : Program} {fin : Exit → Act → World → Prop} {n : Nat} {k : List KI} {f : Fr} {w : World} {ty : TypeId}
theorem nP {Γ : Type} {c body : Code} (fr : Γ → Fr) (I : Γ → World → Prop) (μ : Γ → Nat) (γ₀ : Γ) (h0 : Fr.sub (fr γ₀) f) (hI : I γ₀ w) {m : Nat} (hm : μ γ₀ ≤ m)
   (hpos : ∀ γ w, I γ w → 0 < μ γ)
   (h : ∀ (m : Nat) (γ : Γ) (w : World), I γ w → μ γ ≤ m + 1 → (∀ γ' w', μ γ' ≤ m → I γ' w' → TW P fin n (.c c :: .s m body :: k) (fr γ') w') → TW P fin n (.c c :: .s (m + 1) body :: k) (fr γ) w) :
   TW P fin n (.c c :: .s m body :: k) f w := by
 refine aW (fr γ₀) h0 ?_
 clear h0
 induction m generalizing γ₀ w with
 | zero => have := hpos γ₀ w hI; omega
 | succ m ih => exact h m γ₀ w hI hm (fun γ' w' hm' hI' => ih γ' hI' hm')
def atN (W : Nat → Int) (o : Nat) : Nat → Int := fun c => W (o + c)
def updR (W : Nat → Int) (o s : Nat) (g : Nat → Int) : Nat → Int := fun j => bif Nat.ble o j && Nat.blt j (o + s) then g (j - o) else W j
theorem fB {W g : Nat → Int} {o s c : Nat} (h : c < s) : atN (updR W o s g) o c = g c := by
 unfold atN updR
 rw [show Nat.ble o (o + c) = true from Nat.ble_eq_true_of_le (by omega), show Nat.blt (o + c) (o + s) = true from Nat.ble_eq_true_of_le (by omega), show o + c - o = c by omega]; rfl
theorem iR {W g : Nat → Int} {o o' s c : Nat} (h : o' + c < o ∨ o + s ≤ o' + c) : atN (updR W o s g) o' c = atN W o' c := by
 unfold atN updR
 rcases h with h | h
 · rw [show Nat.ble o (o' + c) = false from by rw [← Bool.not_eq_true, Nat.ble_eq]; omega]; rfl
 · rw [show Nat.blt (o' + c) (o + s) = false from by rw [← Bool.not_eq_true]; unfold Nat.blt; rw [Nat.ble_eq]; omega, Bool.and_false]; rfl
theorem iv_part (k : IntKind) (W : Nat → Int) {m o s : Nat} (h : o + s ≤ m) : ((iv k m W).drop o).take s = iv k s (atN W o) := by
 apply List.ext_getElem?
 intro j
 rw [List.getElem?_take]
 by_cases hj : j < s
 · rw [if_pos hj, List.getElem?_drop, bO (by omega), bO hj]; rfl
 · rw [if_neg hj, List.getElem?_eq_none (by rw [bh]; omega)]
theorem iv_join (k : IntKind) (W g : Nat → Int) {m o s : Nat} (h : o + s ≤ m) : (iv k m W).take o ++ iv k s g ++ (iv k m W).drop (o + s) = iv k m (updR W o s g) := by
 apply List.ext_getElem?
 intro j
 have l1 : ((iv k m W).take o).length = o := by rw [List.length_take, bh]; omega
 by_cases hjm : j < m
 · rw [bO hjm]
   by_cases h1 : j < o
   · rw [List.append_assoc, List.getElem?_append_left (by omega), List.getElem?_take, if_pos h1, bO hjm]
     unfold updR
     rw [show Nat.ble o j = false from by rw [← Bool.not_eq_true, Nat.ble_eq]; omega]; rfl
   · by_cases h2 : j < o + s
     · rw [List.append_assoc, List.getElem?_append_right (by omega), l1, List.getElem?_append_left (by rw [bh]; omega), bO (by omega)]
       unfold updR
       rw [show Nat.ble o j = true from Nat.ble_eq_true_of_le (by omega), show Nat.blt j (o + s) = true from Nat.ble_eq_true_of_le (by omega)]; rfl
     · rw [List.getElem?_append_right (by rw [List.length_append, l1, bh]; omega), List.length_append, l1, bh, List.getElem?_drop, show o + s + (j - (o + s)) = j by omega, bO hjm]
       unfold updR
       rw [show Nat.blt j (o + s) = false from by rw [← Bool.not_eq_true]; unfold Nat.blt; rw [Nat.ble_eq]; omega, Bool.and_false]; rfl
 · rw [List.getElem?_eq_none (by rw [List.length_append, List.length_append, l1, bh, List.length_drop, bh]; omega), List.getElem?_eq_none (by rw [bh]; omega)]
theorem oQ {x : Operand} {t : TypeId} {zs : List Value} {s b g o m : Nat} {T : TypeId} {kd : IntKind} {W : Nat → Int} (ht : agB P t = true) (hs : Ty P t zs s b) (hx : f.ev x = some (.pointer (some ⟨g, o, none⟩)))
   (hb : Bk w g T (iv kd m W)) (h : o + s ≤ m) : Gives P n f w (.load t x) ty (.agg (iv kd s (atN W o)).toArray) w :=
 aX ht hs hx hb (iv_part kd W h) (bh _ _ _ _)
theorem oy {t : TypeId} {x y : Operand} {b o m : Nat} {T : TypeId} {zs : List Value} {s by_ : Nat} {kd : IntKind} {W g : Nat → Int} (ht : Ty P t zs s by_) (hx : f.ev x = some (.pointer (some ⟨b, o, none⟩))) (hy : f.ev y = some (.agg (iv kd s g).toArray))
   (hb : Bk w b T (iv kd m W)) (h : o + s ≤ m) :
   Does P n f w (.store t x y) ty (fun _ w' => Bk w' b T (iv kd m (updR W o s g)) ∧ Keep [b] w w' ∧ w'.heap.size = w.heap.size) :=
 (ak ht hx hy (bh _ _ _ _) ad hb (Nat.ble_eq_true_of_le (by rw [bh]; exact h))).mono fun _ w' ⟨h1, h2, h3⟩ => ⟨by rwa [iv_join kd W g h] at h1, h2, h3⟩
theorem grdT {ops : Array Oper} {j d : Nat} {oj : Oper} {b want : Bool} (hj : ops[j]? = some oj) (hd : oj.dst = some d) (hf : f.get d = some (.bool b)) (hb : b = want) : Grd n ops f j want true := dh hj hd hf (by subst hb; cases b <;> rfl)
theorem e7 {ops : Array Oper} {l : List Oper} {op : Op} {d : Nat} {pos : String} {aft : Array Edge} {j : Nat} {want : Bool} {R : Value → World → Prop} (hG : Grd n ops f j want true) (hr : Does P n f w op ty R) (hd : Nat.blt d n = true)
   (h : ∀ v w', R v w' → OW P fin n k ops l ((d, v) :: f) w') : OW P fin n k ops (⟨some d, op, ty, pos, aft, some (j, want)⟩ :: l) f w := by
 intro a ha
 refine wpList_step fun K hK => ?_
 have hwt : Region.wanted ⟨some d, op, ty, pos, aft, some (j, want)⟩ (yielded ops a.tmps) = true := hG a ha
 rw [hwt, if_pos rfl]
 exact hr a ha _ _ _ _ _ _ (fun v w' hv => hK _ _ (h v w' hv _ (ha.put (ba hd) v)))
section
variable {l : List Oper} {p s0 i : Nat} {O : Nat → Prop} {T cs r : List Nat} {Fin : Fr → World → Prop}
end
theorem g6 {x y z : Operand} {b : Bool} {v : Value} (hx : f.ev x = some (.bool b)) (hb : b = true) (hy : f.ev y = some v) : Gives P n f w (.pick x y z) ty v w := by
 subst hb
 intro a ha dst pos aft g
 simp [execOp, ha.ev hx, ha.ev hy, asBool]
theorem dd {x y z : Operand} {b : Bool} {v : Value} (hx : f.ev x = some (.bool b)) (hb : b = false) (hz : f.ev z = some v) : Gives P n f w (.pick x y z) ty v w := by
 subst hb
 intro a ha dst pos aft g
 simp [execOp, ha.ev hx, ha.ev hz, asBool]
theorem Rd.cblk {w : World} {s m : Nat} {v : Value} {cs : List Value} (h : Rd w s v m cs) : Eng.cblk v = vblk v := by
 obtain ⟨A, c, rfl, _⟩ := h
 cases A <;> rfl
theorem ap {x y : Operand} {t e : TypeId} {m : Nat} {zs : List Value} {s b : Nat} {blk o : Nat} (o' : Nat) {kd : IntKind} {i : Int} (ht : P.underlying t = some (.array m e)) (he : Ty P e zs s b)
   (hx : f.ev x = some (.pointer (some ⟨blk, o, none⟩))) (hy : f.ev y = some (.int kd i)) (h : 0 ≤ i ∧ i < m) (ho : o + i.toNat * s = o') :
   Gives P n f w (.indexAddr t x y) ty (.pointer (some ⟨blk, o', none⟩)) w := by subst ho; exact aa ht he hx hy h
theorem aw {x : Operand} {T : TypeId} {fs : Array Field} {i : Nat} {fd : Field} {b o : Nat} (o' : Nat) {zs : List Value} {s by_ : Nat} (hT : P.underlying T = some (.struct fs)) (hf : fs[i]? = some fd) (hs : Ty P fd.type zs s by_) (h0 : s ≠ 0)
   (hx : f.ev x = some (.pointer (some ⟨b, o, none⟩))) (ho : o + fd.offset = o') : Gives P n f w (.fieldAddr T x i) ty (.pointer (some ⟨b, o', none⟩)) w := by subst ho; exact cT hT hf hs h0 hx
theorem eV {t : TypeId} {x y : Operand} {b o m : Nat} {T : TypeId} {zs : List Value} {by_ : Nat} {kd : IntKind} {W : Nat → Int} {v : Int} (ht : Ty P t zs 1 by_) (hx : f.ev x = some (.pointer (some ⟨b, o, none⟩))) (hy : f.ev y = some (.int kd v))
   (hb : Bk w b T (iv kd m W)) (h : o < m) :
   Does P n f w (.store t x y) ty (fun _ w' => Bk w' b T (iv kd m (upd W o v)) ∧ Keep [b] w w' ∧ w'.heap.size = w.heap.size) :=
 (cD ht hx hy rfl hb (by rw [bh]; exact Nat.ble_eq_true_of_le h)).mono fun _ w' ⟨h1, h2, h3⟩ => ⟨by rwa [jR] at h1, h2, h3⟩
theorem oP {kd : IntKind} {t u : TypeId} {x y : Operand} {i j : Int} (hx : f.ev x = some (.int kd i)) (hy : f.ev y = some (.int kd j)) (h : j ≠ 0) :
   Gives P n f w (.binOp .rem t x y u) ty (.int kd (i.tmod j)) w := br hx hy bb (by rw [binOp_rem]; simp [Op.intDiv, h])
theorem g_slv {x : Operand} {t e : TypeId} {lo hi : Option Operand} {zs : List Value} {s b m c : Nat} {A : Option Addr} {l h : Int} (ht : P.underlying t = some (.slice e)) (he : Ty P e zs s b)
   (hx : f.ev x = some (.slice A m c)) (h2 : c ≤ maxLen) (h1 : m ≤ c)
   (hlo : (lo = none ∧ l = 0) ∨ ∃ o k, lo = some o ∧ f.ev o = some (.int k l)) (hhi : (hi = none ∧ h = m) ∨ ∃ o k, hi = some o ∧ f.ev o = some (.int k h)) (hb : 0 ≤ l ∧ l ≤ h ∧ h ≤ c) :
   Gives P n f w (.slice t x lo hi none) ty (cut (.slice A m c) l.toNat h.toNat s) w := by
 intro a ha dst pos aft g
 have ht' : P.underlying t = some (.slice (P.elem t)) := by unfold Program.elem; rw [ht]
 have hel : P.elem t = e := by unfold Program.elem; rw [ht]
 have hbb : (Instr.sliceBounds true m c (lo.map a.eval) (hi.map a.eval) none).run P w = .ok (l.toNat, h.toNat, c) w := by
   have e2 : (h.toNat : Int) = h := Int.toNat_of_nonneg (by omega)
   rcases hlo with ⟨rfl, rfl⟩ | ⟨o, kk, rfl, ho⟩ <;> rcases hhi with ⟨rfl, rfl⟩ | ⟨o', kk', rfl, ho'⟩
   · simp [Instr.sliceBounds]
   · simp [Instr.sliceBounds, ha.ev ho', run_sliceBound w kk' h c _ (by omega) (by omega)]
   · simp [Instr.sliceBounds, ha.ev ho, run_sliceBound w kk l m _ (by omega) (by omega)]
   · simp [Instr.sliceBounds, ha.ev ho, ha.ev ho', run_sliceBound w kk' h c _ (by omega) (by omega), run_sliceBound w kk l h.toNat _ (by omega) (by omega)]
 simp only [execOp, ha.ev hx, Sem.run_bind, Option.map_none, run_sliceAt_slice w t _ _ _ _ ht', run_slice_any w t A m c ht', hbb, Result.andThen_ok, hel, he.sizeOf, sliced, Sem.run_pure, Eng.cut]
theorem d_cpAt {t u e : TypeId} {x y : Operand} {lo s l m m' by_ : Nat} {v v' : Value} {cs ys zs : List Value} (ht : P.underlying t = some (.slice e)) (he : Ty P e zs 1 by_) (hx : f.ev x = some (cut v l m 1)) (ho : Own w lo e 1 v m cs) (hl : l < m)
   (hy : f.ev y = some v') (hr : Rd w 1 v' m' ys) (h1 : ∀ c ∈ ys, c.oneCell' = true) (hs : s = min m' (m - l)) (hs0 : 0 < s) :
   Does P n f w (.call { callee := .builtin .copy, args := #[x, y], argTypes := #[t, u] }) ty
     (fun r w' => r = .int .i64 (s : Int) ∧ Own w' lo e 1 v m (cs.take l ++ ys.take s ++ cs.drop (l + s)) ∧ Keep (vblk v) w w' ∧ w'.heap.size = w.heap.size) := by
 intro a ha dst pos aft g K Q hK
 obtain ⟨ti, z, hi, hz, hzc, hsz, hby⟩ := he.parts
 have hsz' : (P.info? e).map (·.size) = some 1 := by rw [hi]; simp [hsz]
 obtain ⟨A', c', rfl, h2, h3, h4, h5, h6⟩ := hr
 have hlc := ho.1
 rw [Nat.mul_one] at h4 hlc
 have hne : cs ≠ [] := fun h => by subst h; simp at hlc; omega
 obtain ⟨gb, cap, cur, rfl, q1, q2, q3, q4, q5, q6⟩ := ho.raw hne
 rw [Nat.mul_one] at q5 q6
 have hcut : cut (.slice (some ⟨gb, 0, none⟩) m cap) l m 1 = .slice (some ⟨gb, l, none⟩) (m - l) (cap - l) := by
   have : cap ≠ l := by omega
   simp [cut, this, Addr.add_lit]
 rw [hcut] at hx
 cases A' with
 | none => have := h5 rfl; omega
 | some a' =>
   have hlen : (ys.take s).length = Nat.min m' (m - l) := by show _ = min m' (m - l); rw [List.length_take, h4]; omega
   have hl2 : (ys.take s).length = s := by rw [hlen]; exact hs.symm
   have hrun := run_copy_row (P := P) w t u ty e gb l (m - l) (cap - l) a' m' c' cur.toArray e (ys.take s) ht hsz' q2 hlen ((h6 a' rfl).take s) (by rw [hl2, List.size_toArray]; omega) (fun c hc => h1 c (List.mem_of_mem_take hc))
   rw [hl2] at hrun
   have hr : (execOp a.eval ⟨dst, .call { callee := .builtin .copy, args := #[x, y], argTypes := #[t, u] }, ty, pos, aft, g⟩).run P w = .ok (.value (goInt s)) (w.setRow gb (cur.take l ++ ys.take s ++ cur.drop (l + s)).toArray) := by
     simp [execOp, resolve, invoke, builtin, ha.ev hx, ha.ev hy, hrun]
   unfold Oper.wp
   rw [hr]
   refine hK _ _ ⟨rfl, ⟨by rw [List.length_append, List.length_append, hl2, List.length_take, List.length_drop, hlc]; omega, .inr ⟨gb, cap, _, rfl, q1, setRow_heap w gb _ _ e _ q2, q3, q4, ?_, ?_⟩⟩, dR _ _ _, eB _ _ _⟩
   · simp only [List.size_toArray, List.length_append, List.length_take, List.length_drop, h4]; omega
   · rw [← q6]
     simp only [Nat.mul_one]
     have e1 : (cur.take l).length = l := by rw [List.length_take]; omega
     rw [List.append_assoc, List.append_assoc, List.take_append, List.take_append, e1, hl2, List.take_take, List.take_take, List.take_take, List.drop_take, Nat.min_eq_right (show l ≤ m by omega), Nat.min_eq_right (show s ≤ m - l by omega), Nat.min_eq_left (show l ≤ m by omega), show m - l - s = m - (l + s) by omega]
end
end Go.Eng
