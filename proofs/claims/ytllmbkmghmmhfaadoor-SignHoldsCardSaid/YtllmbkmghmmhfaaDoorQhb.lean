/- Contracts and laws, part 2 of 5: what each function of the program and of the reference computes, shown once. -/
import Derived.Below
import Derived.ChangeOld
import Derived.KernelRfl
import Derived.OpenShut
import Derived.ProofKit
import Derived.ShutString
import Derived.SizedLaws
import Derived.Test.YtllmbkmghmmhfaaDoorProg
import Derived.WalkKit
import Derived.Test.YtllmbkmghmmhfaaDoorQha
set_option maxRecDepth 100000
set_option maxHeartbeats 4000000
set_option linter.unusedVariables false
set_option linter.unusedSimpArgs false
namespace Go.Proofs.YtllmbkmghmmhfaaDoor
abbrev aA := @Tryd.underlying41
abbrev aB := @Tryd.underlying22
abbrev aC := @Tryd.underlying92
abbrev aD := @Tryd.underlying94
abbrev aE := @Tryd.underlying45
abbrev aF := @Tryd.underlying82
abbrev aG := @Tryd.underlying91
abbrev aH := @Tryd.underlying60
abbrev aI := @Tryd.underlying103
abbrev aJ := @Tryd.underlying39
abbrev aK := @Tryd.underlying5
abbrev aL := @Tryd.underlying80
abbrev aM := @Tryd.underlying108
abbrev aN := @Tryd.underlying43
abbrev aO := @Tryd.underlying3
abbrev aP := @Tryd.underlying54
abbrev aQ := @Tryd.underlying105
end Go.Proofs.YtllmbkmghmmhfaaDoor
namespace Go.Eng
open Go Go.IntWalk
section
variable {P : Program} {n : Nat}
def dl (l : List Oper) (p x : Nat) : Bool := Nat.beq l.length (p + 2) && depB l (p + 1) p && depB l (p + 1) x && Nat.blt x p && (List.range p).all fun j => Nat.beq j x || (List.range (p + 1)).any fun m => Nat.blt j m && depB l m j && !Nat.beq m x
theorem i1 {l : List Oper} {p x : Nat} (h : dl l p x = true) : l.length = p + 2 := by
 simp only [dl, Bool.and_eq_true] at h; exact Nat.eq_of_beq_eq_true h.1.1.1.1
theorem tail3_x {l : List Oper} {p x : Nat} (h : dl l p x = true) : depB l (p + 1) x = true := by
 simp only [dl, Bool.and_eq_true] at h; exact h.1.1.2
theorem kZ {l : List Oper} {p x : Nat} (h : dl l p x = true) : ∀ i, i < l.length → p < i → depB l i (i - 1) = true := by
 intro i hi hp
 have := i1 h
 obtain rfl : i = p + 1 := by omega
 simp only [dl, Bool.and_eq_true] at h; exact h.1.1.1.2
theorem mM {l : List Oper} {p x : Nat} {S : Nat → Prop} (h : dl l p x = true) (hS : ∀ i j, i = p ∨ S i → depB l i j = true → S j) : ∀ j, j < p → j ≠ x → S j := by
 have key : ∀ d j, j < p → j ≠ x → d = p - j → S j := by
   intro d
   induction d using Nat.strongRecOn with
   | ind d ih =>
     intro j hj hx hd
     have h' := h
     simp only [dl, Bool.and_eq_true] at h'
     have h1 := List.all_eq_true.1 h'.2 j (List.mem_range.2 hj)
     simp only [Bool.or_eq_true] at h1
     rcases h1 with h1 | h1
     · exact absurd (Nat.eq_of_beq_eq_true h1) hx
     · obtain ⟨m, hm, h2⟩ := List.any_eq_true.1 h1
       simp only [Bool.and_eq_true, Bool.not_eq_true'] at h2
       have h3 := ba h2.1.1
       have h4 := List.mem_range.1 hm
       have h5 : m ≠ x := fun e => by
         have := h2.2
         rw [e] at this
         have e2 : Nat.beq x x = true := Nat.beq_refl x
         rw [e2] at this; cases this
       refine hS m j ?_ h2.1.2
       rcases Nat.lt_or_ge m p with h6 | h6
       · exact .inr (ih (p - m) (by omega) m h6 h5 rfl)
       · exact .inl (by omega)
 exact fun j hj hx => key _ j hj hx rfl
theorem dep_lt {l : List Oper} (hok : drawOk n l = true) {i j : Nat} (h : depB l i j = true) : j < i := by
 obtain ⟨o, ho, e, he, h3, h4⟩ := fi h
 have hlt : i < l.length := (List.getElem?_eq_some_iff.1 ho).1
 have h1 := List.all_eq_true.1 hok i (List.mem_range.2 hlt)
 simp only [ho, Bool.and_eq_true] at h1
 have h2 := List.all_eq_true.1 h1.1.2 e (Array.mem_toList_iff.2 he)
 rw [h4] at h2
 have := ba (by simpa using h2)
 omega
theorem ec {l : List Oper} {p0 : Nat} {Q : Exit → Act → World → Prop} (hok : drawOk n l = true) (ht : ∀ i, i < l.length → p0 < i → depB l i (i - 1) = true) : ∀ (d p fuel : Nat) (listed : Array Bool) (a : Act) (w : World), d = l.length - p → p ≤ l.length → p0 ≤ p → d ≤ fuel → listed.size = l.length →
   (∀ i, i < l.length → listed.getD i false = decide (i < p)) → wpList P l.toArray Q (l.drop p) a w → wpAny P .any l.toArray Q fuel listed a w := by
 intro d
 induction d with
 | zero =>
   intro p fuel listed a w hd hp hp0 hf hs hl h
   have hpl : p = l.length := by omega
   subst hpl
   rw [List.drop_length] at h
   have hr : Region.ready .any l.toArray listed = [] := by
     cases hr : Region.ready .any l.toArray listed with
     | nil => rfl
     | cons i r =>
       exfalso
       have hi : i ∈ Region.ready .any l.toArray listed := by rw [hr]; simp
       obtain ⟨h0, o, ho, _⟩ := mem_ready.1 hi
       have hlt : i < l.length := by have := (Array.getElem?_eq_some_iff.1 ho).1; simpa using this
       rw [bL hs hlt true false, hl i hlt] at h0
       simp [hlt] at h0
   cases fuel with
   | zero => exact ⟨hr, h⟩
   | succ f => exact ⟨fun _ => h, fun i hi => by rw [hr] at hi; cases hi⟩
 | succ d ih =>
   intro p fuel listed a w hd hp hp0 hf hs hl h
   have hplt : p < l.length := by omega
   obtain ⟨f, rfl⟩ : ∃ f, fuel = f + 1 := ⟨fuel - 1, by omega⟩
   have hget : l[p]? = some l[p] := List.getElem?_eq_getElem hplt
   have honly : ∀ i, i ∈ Region.ready .any l.toArray listed → i = p := by
     intro i hi
     obtain ⟨h0, o, ho, hedge⟩ := mem_ready.1 hi
     have hlt : i < l.length := by have := (Array.getElem?_eq_some_iff.1 ho).1; simpa using this
     have h1 : ¬ i < p := by
       rw [bL hs hlt true false, hl i hlt] at h0
       simpa using h0
     rcases Nat.lt_or_ge p i with h2 | h2
     · obtain ⟨o', ho', e, he, h3, h4⟩ := fi (ht i hlt (by omega))
       rw [show l[i]? = some o from by simpa using ho] at ho'
       obtain rfl := Option.some.inj ho'
       have := hedge e he h4
       rw [h3, hl (i - 1) (by omega)] at this
       have := of_decide_eq_true this
       omega
     · omega
   have hmem : p ∈ Region.ready .any l.toArray listed := by
     refine mem_ready.2 ⟨by rw [bL hs hplt true false, hl p hplt]; simp, l[p], by simp [hget], fun e he hb => ?_⟩
     have h1 := List.all_eq_true.1 hok p (List.mem_range.2 hplt)
     simp only [hget, Bool.and_eq_true] at h1
     have h2 := List.all_eq_true.1 h1.1.2 e (Array.mem_toList_iff.2 he)
     rw [hb] at h2
     have h3 : e.on < p := ba (by simpa using h2)
     rw [hl e.on (by omega)]; simpa using h3
   refine ⟨fun hr => (by rw [hr] at hmem; cases hmem), fun i hi => ?_⟩
   have := honly i hi
   subst this
   rw [List.drop_eq_getElem_cons hplt] at h
   unfold wpOp
   rw [show l.toArray[i]? = some l[i] from by simp [hget]]
   simp only
   unfold wpList at h
   have hnext : ∀ a' w', wpList P l.toArray Q (l.drop (i + 1)) a' w' → wpAny P .any l.toArray Q f (listed.setIfInBounds i true) a' w' := by
     intro a' w' h'
     refine ih (i + 1) f _ a' w' (by omega) (by omega) (by omega) (by omega) (by simpa using hs) ?_ h'
     intro j hj
     by_cases hij : i = j
     · subst hij
       rw [Array.getD_eq_getD_getElem?]; simp [hs, hj]
     · rw [getD_set_ne false hij, hl j hj]
       by_cases h1 : j < i
       · simp [h1]; omega
       · simp [h1]; omega
   split at h
   · rename_i hw
     rw [if_pos hw]
     exact h.imp (fun h => Oper.wp_mono (fun a' w' h' => hnext a' w' h') h) id
   · rename_i hw
     rw [if_neg hw]
     exact hnext _ _ h
def planOkX (n : Nat) (l : List Oper) (p : Nat) (plan : List Nat) (cb : Nat → Bool) (fl : List Nat) (x : Nat) : Bool :=
 drawOk n l && dl l p x && plan.all (fun i => Nat.blt i p && (hasDst l i || cb i)) && (List.range p).all (fun i => plan.contains i || fl.contains i) && eager l cb plan && fl.all (fun i => Nat.blt i p && !plan.contains i) && plan.contains x && !cb x
theorem Kn.unput {f : Fr} {a : Act} {d : Nat} {v : Value} (h : Kn n f (a.put (some d) v)) (hn : (f.all fun q => q.1 != d) = true) : Kn n f a := by
  refine ⟨by have := h.size; simpa [Act.put] using this, by have := h.defers; simpa [Act.put] using this, fun t u ht => ?_⟩
  have hne : d ≠ t := by
    intro e
    subst e
    have key : ∀ f : Fr, (f.all fun q => q.1 != d) = true → f.get d = none := by
      intro f
      induction f with
      | nil => intro _; rfl
      | cons q r ih =>
        intro hq
        simp only [List.all_cons, Bool.and_eq_true, bne_iff_ne] at hq
        obtain ⟨q1, q2⟩ := q
        simp only [Fr.get]
        have : Nat.beq q1 d = false := by
          cases hb : Nat.beq q1 d with
          | false => rfl
          | true => exact absurd (Nat.eq_of_beq_eq_true hb) hq.1
        rw [this]; exact ih hq.2
    rw [key f hn] at ht; cases ht
  have := h.get t u ht
  rw [← this]
  simp only [Act.put, Array.getD_eq_getD_getElem?]
  rw [Array.getElem?_setIfInBounds_ne hne]
theorem kR {ops : Array Oper} {sx ix dx : Nat} {tyx : TypeId} {posx : String} {aftx : Array Edge} {f1 : Fr} {w : World} {u : Value} {a : Act} (h : PStep P n ops ⟨some dx, .extract (.tmp sx) ix, tyx, posx, aftx, none⟩ f1 w (fun v' w'' => v' = u ∧ w'' = w)) (ha : Kn n f1 a) :
    ∃ v, (∀ w2, (execOp a.eval ⟨some dx, .extract (.tmp sx) ix, tyx, posx, aftx, none⟩).run P w2 = .ok (.value v) w2) ∧ a.put (some dx) v = a.put (some dx) u := by
  obtain ⟨p1, _⟩ := h a ha (fun a' w2 => a' = a.put (some dx) u ∧ w2 = w) (fun _ _ _ => False) (fun v w' ⟨e1, e2⟩ => by subst e1; exact ⟨rfl, e2⟩)
  have p1 := p1 rfl
  unfold Oper.wp at p1
  have e : ∀ w2, (execOp a.eval ⟨some dx, .extract (.tmp sx) ix, tyx, posx, aftx, none⟩).run P w2 = ((Instr.extract (a.eval (.tmp sx)) ix).run P w2).andThen fun v w' => .ok (.value v) w' := by
    intro w2; simp [execOp]
  rw [e w] at p1
  cases hv : a.eval (.tmp sx) with
  | tuple vs =>
    cases hi : vs[ix]? with
    | some v =>
      refine ⟨v, fun w2 => by rw [e w2, hv]; simp [Instr.extract, hi], ?_⟩
      rw [hv] at p1
      simp [Instr.extract, hi, Oper.upon] at p1
      exact p1
    | none => rw [hv] at p1; simp [Instr.extract, hi, Oper.upon, stuck] at p1
  | _ => rw [hv] at p1; simp [Instr.extract, Oper.upon, stuck] at p1
end
section
variable {P : Program} {n : Nat} {fin : Exit → Act → World → Prop} {k : List KI} {f : Fr} {w : World}
def TailX (P : Program) (fin : Exit → Act → World → Prop) (n : Nat) (k : List KI) (l : List Oper) (p dx : Nat) (f : Fr) (w : World) : Prop :=
 ∃ (f13 : Fr) (op : Op) (ty : TypeId) (pos : String) (aft : Array Edge) (R : Value → World → Prop), l[p]? = some ⟨none, op, ty, pos, aft, none⟩ ∧ Fr.sub f13 f ∧ (f13.all fun q => q.1 != dx) = true ∧ Does P n f13 w op ty R ∧ ∀ v w', R v w' → OW P fin n k l.toArray (l.drop (p + 1)) f w'
theorem nT {l : List Oper} {p dx : Nat} {F : Fr} {a : Act} (hlen : l.length = p + 2) (hF : Kn n F a) (h : TailX P fin n k l p dx F w) : wpList P l.toArray (KQ P fin k) (l.drop p) a w := by
 obtain ⟨f13, op, ty, pos, aft, R, e13, hs13, hno, hdo, hafter⟩ := h
 have hplt : p < l.length := by omega
 have hget : l[p] = ⟨none, op, ty, pos, aft, none⟩ := by
   have := List.getElem?_eq_getElem hplt; rw [e13] at this; exact (Option.some.inj this).symm
 rw [List.drop_eq_getElem_cons hplt, hget]
 unfold wpList
 rw [if_pos (by rfl)]
 exact .inl (hdo a (hF.sub hs13) _ _ _ _ _ _ (fun v w' hv => hafter v w' hv _ hF))
def FinG (P : Program) (n : Nat) (l : List Oper) (p s0 : Nat) (cs : List Nat) (fc : Fr) (G : Fr → World → Prop) : List (Nat × TypeId × List Value) → List Nat → Fr → World → Prop
 | [], _, f, w => G f w
 | q :: r, seen, f, w => ∀ b, s0 ≤ b → b < w.heap.size → Bk w b q.2.1 q.2.2 → (∀ x, x ∈ seen → x ≠ b) → (∀ j, j ∈ cs → hasDst l j = true → ∀ v, fc.get (dstOf l j) = some v → ∀ x, x ∈ cblk v → x ≠ b) →
   FinG P n l p s0 cs fc G r (b :: seen) ((dstOf l q.1, .pointer (some ⟨b, 0, none⟩)) :: f) w
theorem FinG.use {l : List Oper} {p s0 : Nat} {cs : List Nat} {fc : Fr} {G : Fr → World → Prop} {bs : Nat → Nat} : ∀ {fl : List (Nat × TypeId × List Value)} {seen : List Nat} {f : Fr} {w : World}, FinG P n l p s0 cs fc G fl seen f w →
   (∀ q, q ∈ fl → s0 ≤ bs q.1 ∧ bs q.1 < w.heap.size ∧ Bk w (bs q.1) q.2.1 q.2.2 ∧ (∀ j, j ∈ cs → hasDst l j = true → ∀ v, fc.get (dstOf l j) = some v → ∀ x, x ∈ cblk v → x ≠ bs q.1) ∧ (∀ x, x ∈ seen → x ≠ bs q.1)) →
   (fl.map (·.1)).Nodup → (∀ q q', q ∈ fl → q' ∈ fl → q.1 ≠ q'.1 → bs q.1 ≠ bs q'.1) → G (flFr l bs fl f) w
 | [], seen, f, w, h, _, _, _ => h
 | q :: r, seen, f, w, h, hq, hnd, hd => by
   obtain ⟨h1, h2, h3, h4, h5⟩ := hq q (by simp)
   have hnd' := List.nodup_cons.1 hnd
   refine FinG.use (fl := r) (f := (dstOf l q.1, .pointer (some ⟨bs q.1, 0, none⟩)) :: f) (h (bs q.1) h1 h2 h3 h5 h4) (fun q' hq' => ?_) hnd'.2 (fun a b ha hb => hd a b (by simp [ha]) (by simp [hb]))
   obtain ⟨g1, g2, g3, g4, g5⟩ := hq q' (by simp [hq'])
   refine ⟨g1, g2, g3, g4, fun x hx => ?_⟩
   rcases List.mem_cons.1 hx with rfl | hx
   · exact hd q q' (by simp) (by simp [hq']) (fun e => hnd'.1 (List.mem_map.2 ⟨q', hq', e.symm⟩))
   · exact g5 x hx
theorem ge {id : Nat} {l : List Oper} (p : Nat) (plan : List Nat) (cs : List Nat) (T : List Nat) (fl : List (Nat × TypeId × List Value)) {x dx : Nat} {sx ix : Nat} {tyx : TypeId} {posx : String} {aftx : Array Edge} (hx : l[x]? = some ⟨some dx, .extract (.tmp sx) ix, tyx, posx, aftx, none⟩) (hm : P.follows .mixedOrders = true) (f0 : Fr) (hf : Fr.sub f0 f) (hok : planOkX n l p plan (fun i => cs.contains i) (fl.map (·.1)) x = true) (hnd : (fl.map (·.1)).Nodup) (hcs : cs.all (fun i => plan.contains i) = true) (hfl : ∀ q, q ∈ fl → FlOk P l q) (hT : ∀ x, x ∈ T → x < w.heap.size) (hfree0 : freeOk (l.take p) f0 = true)
    (h : ∀ w1, Keep [] w w1 → PA P n l p T (fun x => x < w.heap.size ∨ fl = []) (fun i => cs.contains i) (fun f' w' => ∀ w2, Keep [] w' w2 → FinG P n l p w.heap.size cs f' (TailX P fin n k l p dx) fl [] f' w2) plan f0 w1) :
    TW P fin n (.c (.region id l.toArray true) :: k) f w := by
  intro a ha
  simp only [KQ]
  have ha0 := ha.sub hf
  simp only [planOkX, Bool.and_eq_true] at hok
  obtain ⟨⟨⟨⟨⟨⟨⟨hdr, ht⟩, hall⟩, hcov⟩, heag⟩, hfla⟩, hxp⟩, hxc⟩ := hok
  have hxp : x ∈ plan := by simpa using hxp
  have hxc : cs.contains x = false := by simpa using hxc
  have hnx := kZ ht
  have hlen := i1 ht
  have hfl1 : ∀ q, q ∈ fl → q.1 < p ∧ q.1 ∉ plan := by
    intro q hq
    have := List.all_eq_true.1 hfla q.1 (List.mem_map.2 ⟨q, hq, rfl⟩)
    simp only [Bool.and_eq_true, Bool.not_eq_true'] at this
    exact ⟨ba this.1, by simpa using this.2⟩
  have hcsp : ∀ j, j ∈ cs → j ∈ plan := by
    intro j hj
    have := List.all_eq_true.1 hcs j hj
    simpa using this
  have hpl : p ≤ l.length := by omega
  have hplan : ∀ j, j ∈ plan → j < p ∧ (hasDst l j = true ∨ cs.contains j = true) := by
    intro j hj
    have := List.all_eq_true.1 hall j hj
    simp only [Bool.and_eq_true, Bool.or_eq_true] at this
    exact ⟨ba this.1, this.2⟩
  have hmem : ∀ j, j < p → j ∈ plan ∨ ∃ q, q ∈ fl ∧ q.1 = j := by
    intro j hj
    have := List.all_eq_true.1 hcov j (List.mem_range.2 hj)
    simp only [Bool.or_eq_true, List.contains_iff_mem, List.mem_map] at this
    exact this
  have hgrow : ∀ f' w1 w2, Keep [] w1 w2 → (∀ w3, Keep [] w1 w3 → FinG P n l p w.heap.size cs f' (TailX P fin n k l p dx) fl [] f' w3) → (∀ w3, Keep [] w2 w3 → FinG P n l p w.heap.size cs f' (TailX P fin n k l p dx) fl [] f' w3) := fun f' w1 w2 k1 h w3 k3 => h w3 (k1.trans k3)
  have hfree : ∀ i, i < p → hasDst l i = true → f0.get (dstOf l i) = none := by
    intro i hi hd
    have e1 : dstOf (l.take p) i = dstOf l i := by unfold dstOf; rw [List.getElem?_take, if_pos hi]
    have e2 : hasDst (l.take p) i = hasDst l i := by unfold hasDst; rw [List.getElem?_take, if_pos hi]
    rw [← e1]
    exact dA (l := l.take p) (by rw [List.length_take]; omega) (by rw [e2]; exact hd) hfree0
  have hend : ∀ (listed : Array Bool) (a : Act) (w' : World), Kn n f0 a → (∀ i, i < p → listed.getD i false = true) → w.heap.size ≤ w'.heap.size →
      (∃ pre rest vs, ∃ bs : Nat → Nat, plan = pre ++ rest ∧ (∀ c r, rest = c :: r → cs.contains c = true) ∧ PA P n l p T (fun x => x < w.heap.size ∨ fl = []) (fun i => cs.contains i) (fun f' w' => ∀ w2, Keep [] w' w2 → FinG P n l p w.heap.size cs f' (TailX P fin n k l p dx) fl [] f' w2) rest (dpF l vs pre.reverse ++ f0) w' ∧
        (∀ i, i ∈ pre → cs.contains i = false → RdOkA P n l T f0 pre vs w' i) ∧ (∀ i, i ∈ pre → cs.contains i = true → listed.getD i false = true) ∧ (∀ i, listed.getD i false = true → (∃ q, q ∈ fl ∧ q.1 = i) ∨ i ∈ pre ∧ (hasDst l i = true → a.tmps.getD (dstOf l i) undef = vs i)) ∧
        (∀ q, q ∈ fl → listed.getD q.1 false = true → a.tmps.getD (dstOf l q.1) undef = .pointer (some ⟨bs q.1, 0, none⟩) ∧ w.heap.size ≤ bs q.1 ∧ bs q.1 < w'.heap.size ∧ Bk w' (bs q.1) q.2.1 q.2.2 ∧ ∀ j, j ∈ pre → cs.contains j = true → ∀ x, x ∈ cblk (vs j) → x ≠ bs q.1) ∧
        (∀ j, j ∈ pre → cs.contains j = true → ∀ x, x ∈ cblk (vs j) → x < w'.heap.size) ∧
        (∀ q q', q ∈ fl → q' ∈ fl → listed.getD q.1 false = true → listed.getD q'.1 false = true → q.1 ≠ q'.1 → bs q.1 ≠ bs q'.1)) →
      ∃ F, Kn n F a ∧ TailX P fin n k l p dx F w' := by
    intro listed a w' hk hlist hsz hst
    obtain ⟨pre, rest, vs, bs, h1, h2, h3, h4, h5, h6, h7, h8, h9⟩ := hst
    have hnf : ∀ c, c ∈ plan → ¬ ∃ q, q ∈ fl ∧ q.1 = c := fun c hc ⟨q, hq, he⟩ => (hfl1 q hq).2 (he ▸ hc)
    have hrest : rest = [] := by
      cases rest with
      | nil => rfl
      | cons c r =>
        exfalso
        have hcp : c ∈ plan := by rw [h1]; simp
        have hc := hplan c hcp
        rcases h6 c (hlist c hc.1) with h | h
        · exact hnf c hcp h
        · exact (cJ (pre := pre) (h1 ▸ heag)).2 c h.1 (by simp)
    subst hrest
    have hF := h3
    unfold PA at hF
    have hpre : ∀ j, j ∈ pre → j ∈ plan := fun j hj => by rw [h1]; simp [hj]
    have hkF : Kn n (dpF l vs pre.reverse ++ f0) a := Kn.app (by
      intro q hq
      obtain ⟨j, hj, hjd, rfl⟩ := gY hq
      have hj' : j ∈ pre := by simpa using hj
      rcases h6 j (hlist j (hplan j (hpre j hj')).1) with h | h
      · exact absurd h (hnf j (hpre j hj'))
      · exact h.2 hjd) hk
    refine ⟨_, jP (bs := bs) (fl := fl) hkF (fun q hq => (h7 q hq (hlist _ (hfl1 q hq).1)).1), FinG.use (bs := bs) (hF w' (Keep.refl _ _)) (fun q hq => ?_) hnd (fun q q' hq hq' hne => h9 q q' hq hq' (hlist _ (hfl1 q hq).1) (hlist _ (hfl1 q' hq').1) hne)⟩
    obtain ⟨_, g2, g3, g4, g5⟩ := h7 q hq (hlist _ (hfl1 q hq).1)
    refine ⟨g2, g3, g4, fun j hj hjd v hv x hx => ?_, fun x hx => by cases hx⟩
    have hjp := hcsp j hj
    rcases gZ hv with ⟨j', hj', e0, e1, e2⟩ | e1
    · have hj2 : j' ∈ pre := by simpa using hj'
      have : j' = j := cP hdr (Nat.lt_of_lt_of_le (hplan j' (hpre j' hj2)).1 hpl) (Nat.lt_of_lt_of_le (hplan j hjp).1 hpl) e0 hjd e1
      subst this; subst e2
      exact g5 j' hj2 (by simpa using hj) x hx
    · rw [hfree j (hplan j hjp).1 hjd] at e1; cases e1
  have hgo : ∀ (a : Act) (w' : World), (∃ F, Kn n F a ∧ TailX P fin n k l p dx F w') → wpList P l.toArray (KQ P fin k) (l.drop p) a w' := by
    rintro a w' ⟨F, hF, hG⟩
    exact nT hlen hF hG
  refine wp_region_any hm ?_
  have key : ∀ (fuel : Nat) (listed : Array Bool) (a : Act) (w' : World), listed.size = l.length → left l.length listed ≤ fuel → Kn n f0 a → (∀ i, p ≤ i → i < l.length → listed.getD i false = false) → (∀ i, listed.getD i false = true → i < p) →
      (∀ i j, listed.getD i false = true → depB l i j = true → listed.getD j false = true) → w.heap.size ≤ w'.heap.size →
      (∃ pre rest vs, ∃ bs : Nat → Nat, plan = pre ++ rest ∧ (∀ c r, rest = c :: r → cs.contains c = true) ∧ PA P n l p T (fun x => x < w.heap.size ∨ fl = []) (fun i => cs.contains i) (fun f' w' => ∀ w2, Keep [] w' w2 → FinG P n l p w.heap.size cs f' (TailX P fin n k l p dx) fl [] f' w2) rest (dpF l vs pre.reverse ++ f0) w' ∧
        (∀ i, i ∈ pre → cs.contains i = false → RdOkA P n l T f0 pre vs w' i) ∧ (∀ i, i ∈ pre → cs.contains i = true → listed.getD i false = true) ∧ (∀ i, listed.getD i false = true → (∃ q, q ∈ fl ∧ q.1 = i) ∨ i ∈ pre ∧ (hasDst l i = true → a.tmps.getD (dstOf l i) undef = vs i)) ∧
        (∀ q, q ∈ fl → listed.getD q.1 false = true → a.tmps.getD (dstOf l q.1) undef = .pointer (some ⟨bs q.1, 0, none⟩) ∧ w.heap.size ≤ bs q.1 ∧ bs q.1 < w'.heap.size ∧ Bk w' (bs q.1) q.2.1 q.2.2 ∧ ∀ j, j ∈ pre → cs.contains j = true → ∀ x, x ∈ cblk (vs j) → x ≠ bs q.1) ∧
        (∀ j, j ∈ pre → cs.contains j = true → ∀ x, x ∈ cblk (vs j) → x < w'.heap.size) ∧
        (∀ q q', q ∈ fl → q' ∈ fl → listed.getD q.1 false = true → listed.getD q'.1 false = true → q.1 ≠ q'.1 → bs q.1 ≠ bs q'.1)) →
      wpAny P .any l.toArray (KQ P fin k) fuel listed a w' := by
    intro fuel
    induction fuel with
    | zero =>
      intro listed a w' hs hle hk hun hlp hcl hsz hst
      have hlist : ∀ i, i < l.length → listed.getD i false = true := by
        intro i hi
        cases hc : listed.getD i false with
        | true => rfl
        | false =>
          exfalso
          have := dY hi hs (by rw [bL hs hi true false]; exact hc)
          omega
      have hpe : p = l.length := by
        rcases Nat.lt_or_ge p l.length with h1 | h1
        · have := hun p (Nat.le_refl _) h1; rw [hlist p h1] at this; cases this
        · omega
      refine ec hdr hnx 0 p 0 listed a w' (by omega) hpl (Nat.le_refl _) (Nat.le_refl _) hs (fun i hi => by rw [hlist i hi]; simp; omega) ?_
      exact hgo _ _ (hend listed a w' hk (fun i hi => hlist i (by omega)) hsz hst)
    | succ fuel ih =>
      intro listed a w' hs hle hk hun hlp hcl hsz hst
      by_cases hfull : ∀ i, i < p → listed.getD i false = true
      · refine ec hdr hnx (l.length - p) p (fuel + 1) listed a w' rfl hpl (Nat.le_refl _) ?_ hs (fun i hi => ?_) (hgo _ _ (hend listed a w' hk hfull hsz hst))
        · refine Nat.le_trans ?_ hle
          unfold left
          have e1 : l.length - p = ((List.range' p (l.length - p)).countP fun i => !listed.getD i true) := by
            rw [List.countP_eq_length.2 (fun i hi => ?_)]
            · simp
            · rw [List.mem_range'_1] at hi
              rw [bL hs (by omega) true false, hun i (by omega) (by omega)]; rfl
          rw [e1]
          have e2 : List.range l.length = List.range p ++ List.range' p (l.length - p) := by
            have e3 := List.range'_append_1 (s := 0) (m := p) (n := l.length - p)
            rw [Nat.zero_add] at e3
            rw [List.range_eq_range', List.range_eq_range', e3]; congr 1; omega
          rw [e2, List.countP_append]; omega
        · by_cases hip : i < p
          · rw [hfull i hip]; simp [hip]
          · rw [hun i (by omega) hi]; simp [hip]
      · obtain ⟨pre, rest, vs, bs, h1, h2, h3, h4, h5, h6, h7, h8, h9⟩ := hst
        have hnf : ∀ c, c ∈ plan → ¬ ∃ q, q ∈ fl ∧ q.1 = c := fun c hc ⟨q, hq, he⟩ => (hfl1 q hq).2 (he ▸ hc)
        obtain ⟨q, hq⟩ := Classical.not_forall.1 hfull
        obtain ⟨hq1, hq2⟩ := Classical.not_imp.1 hq
        have hq2 : listed.getD q false = false := eq_false_of_ne_true hq2
        refine ⟨fun hr => (by
          have := eX hdr rfl hs hr q (by omega)
          rw [hq2] at this; cases this), fun i hi => ?_⟩
        obtain ⟨h0, o, ho, hedge⟩ := mem_ready.1 hi
        have ho' : l[i]? = some o := by simpa using ho
        have hlt : i < l.length := (List.getElem?_eq_some_iff.1 ho').1
        have hdepl : ∀ j, depB l i j = true → listed.getD j false = true := by
          intro j hj
          simp only [depB, ho'] at hj
          obtain ⟨e, he, h7⟩ := List.any_eq_true.1 hj
          simp only [Bool.and_eq_true, beq_iff_eq] at h7
          have := hedge e (Array.mem_toList_iff.1 he) h7.2
          rwa [h7.1] at this
        rcases Nat.lt_or_ge i p with hip | hip
        rotate_left
        · have hpi : i = p := by
            rcases Nat.lt_or_ge p i with h8 | h8
            · have := hdepl _ (hnx i hlt h8)
              rw [hun (i - 1) (by omega) (by omega)] at this; cases this
            · omega
          subst hpi
          have hallx : ∀ j, j < i → j ≠ x → listed.getD j false = true := mM (S := fun j => listed.getD j false = true) ht (fun m j hm hd => hm.elim (fun e => hdepl j (e ▸ hd)) (fun hl => hcl m j hl hd))
          have hxi : x < i := (hplan x hxp).1
          have hxl : listed.getD x false = false := by
            cases hc : listed.getD x false with
            | false => rfl
            | true => exact absurd (fun j hj => if e : j = x then e ▸ hc else hallx j hj e) hfull
          have hpre : ∀ j, j ∈ pre → j ∈ plan := fun j hj => by rw [h1]; simp [hj]
          have hrest : rest = [] := by
            cases rest with
            | nil => rfl
            | cons c r =>
              exfalso
              have hcp : c ∈ plan := by rw [h1]; simp
              have hcc := h2 c r rfl
              rcases h6 c (hallx c (hplan c hcp).1 (fun e => by rw [e, hxc] at hcc; cases hcc)) with h | h
              · exact hnf c hcp h
              · exact (cJ (pre := pre) (h1 ▸ heag)).2 c h.1 (by simp)
          subst hrest
          have hxpre : x ∈ pre := by rw [h1] at hxp; simpa using hxp
          obtain ⟨o2, f1, g1, g2, g3⟩ := h4 x hxpre hxc
          rw [hx] at g1
          simp only [Option.some.injEq] at g1
          subst g1
          have hxdep : ∀ j, depB l x j = true → listed.getD j false = true := by
            intro j hj
            have := dep_lt hdr hj
            exact hallx j (by omega) (by omega)
          have hkx : Kn n f1 a := hD hk g2 (fun j hj hjp hjd => (h6 j (hxdep j hj)).elim (fun h => absurd h (hnf j (hpre j hjp))) (fun h => h.2 hjd))
          obtain ⟨vx, hrunx, hputx⟩ := kR (g3 w' (Keep.refl _ _)) hkx
          have hxd : hasDst l x = true := by unfold hasDst; rw [hx]; rfl
          have hdxd : dstOf l x = dx := by unfold dstOf; rw [hx]; rfl
          have hdn : dx < n := by
            have h8 := List.all_eq_true.1 hdr x (List.mem_range.2 (by omega))
            simp only [hx, Bool.and_eq_true] at h8
            rw [hdxd] at h8
            exact ba h8.1.1
          have hxfl : ∀ q, q ∈ fl → x ≠ q.1 := fun q hq e => hnf x hxp ⟨q, hq, e.symm⟩
          have hputo : ∀ j, j < i → hasDst l j = true → x ≠ j → (a.put (some dx) (vs x)).tmps.getD (dstOf l j) undef = a.tmps.getD (dstOf l j) undef := by
            intro j hj hdj hij
            have hne : dx ≠ dstOf l j := fun e => hij (cP hdr (by omega) (by omega) hxd hdj (by rw [hdxd, e]))
            simp only [Act.put, Array.getD_eq_getD_getElem?]; rw [Array.getElem?_setIfInBounds_ne hne]
          have hfd : ∀ q, q ∈ fl → hasDst l q.1 = true := by
            intro q hq
            obtain ⟨d, ty, pos, aft, s, by_, hg, _⟩ := hfl q hq
            unfold hasDst; rw [hg]; rfl
          obtain ⟨F, hF, hG⟩ := hend (listed.setIfInBounds x true) (a.put (some dx) (vs x)) w' (hk.putOther (by rw [← hdxd]; exact hfree x hxi hxd) _)
            (fun j hj => by
              by_cases e : x = j
              · subst e; rw [Array.getD_eq_getD_getElem?]; simp [hs, (show x < l.length by omega)]
              · rw [getD_set_ne false e]; exact hallx j hj (Ne.symm e)) hsz
            ⟨pre, [], vs, bs, h1, (fun c r h => by cases h), h3, h4, fun j hj hc => by
                by_cases e : x = j
                · subst e; rw [hxc] at hc; cases hc
                · rw [getD_set_ne false e]; exact h5 j hj hc,
              fun j hj => by
                by_cases e : x = j
                · subst e
                  refine .inr ⟨hxpre, fun _ => ?_⟩
                  rw [hdxd]; simp [Act.put, Array.getD_eq_getD_getElem?, hk.size, hdn]
                · rw [getD_set_ne false e] at hj
                  rcases h6 j hj with h | ⟨m1, m2⟩
                  · exact .inl h
                  · exact .inr ⟨m1, fun hjd => by rw [hputo j (hplan j (hpre j m1)).1 hjd e]; exact m2 hjd⟩,
              fun q hq hlq => by
                rw [getD_set_ne false (hxfl q hq)] at hlq
                obtain ⟨m1, m2⟩ := h7 q hq hlq
                exact ⟨by rw [hputo q.1 (hfl1 q hq).1 (hfd q hq) (hxfl q hq)]; exact m1, m2⟩, h8,
              fun q q' hq hq' hl1 hl2 => by
                rw [getD_set_ne false (hxfl q hq)] at hl1
                rw [getD_set_ne false (hxfl q' hq')] at hl2
                exact h9 q q' hq hq' hl1 hl2⟩
          obtain ⟨f13, op, ty, pos, aft, R, e13, hs13, hno, hdo, hafter⟩ := hG
          rw [e13] at ho'
          simp only [Option.some.injEq] at ho'
          subst ho'
          have hk13 : Kn n f13 a := (hF.sub hs13).unput hno
          have hlq := dY hlt hs h0
          unfold wpOp
          rw [ho]
          simp only
          rw [if_pos (by rfl)]
          refine .inl (hdo a hk13 _ _ _ _ _ _ (fun v w3 hv => ?_))
          have hs2 : (listed.setIfInBounds i true).size = l.length := by simpa using hs
          have hx2 : (listed.setIfInBounds i true).getD x false = false := by rw [getD_set_ne false (by omega)]; exact hxl
          have hlx := dY (i := x) (by omega) hs2 (by rw [bL hs2 (by omega) true false]; exact hx2)
          have hsx : ((listed.setIfInBounds i true).setIfInBounds x true).size = l.length := by simpa using hs
          have hend2 : ∀ j, j < l.length → ((listed.setIfInBounds i true).setIfInBounds x true).getD j false = decide (j < i + 1) := by
            intro j hj
            by_cases e1 : x = j
            · subst e1; rw [Array.getD_eq_getD_getElem?]; simp [hs, hj]; omega
            · rw [getD_set_ne false e1]
              by_cases e2 : i = j
              · subst e2; rw [Array.getD_eq_getD_getElem?]; simp [hs, hj]
              · rw [getD_set_ne false e2]
                by_cases e3 : j < i
                · rw [hallx j e3 (Ne.symm e1)]; simp; omega
                · rw [hun j (by omega) hj]; simp; omega
          have hl1 : 1 ≤ left l.length ((listed.setIfInBounds i true).setIfInBounds x true) := by
            have := dY (m := l.length) (i := i + 1) (by omega) hsx (by rw [bL hsx (by omega) true false, hend2 (i + 1) (by omega)]; simp)
            omega
          obtain ⟨f, rfl⟩ : ∃ f, fuel = f + 1 := ⟨fuel - 1, by omega⟩
          refine ⟨fun hr => (by
            have := eX hdr rfl hs2 hr x (by omega)
            rw [hx2] at this; cases this), fun i2 hi2 => ?_⟩
          obtain ⟨h02, o2, ho2, hedge2⟩ := mem_ready.1 hi2
          have ho2' : l[i2]? = some o2 := by simpa using ho2
          have hlt2 : i2 < l.length := (List.getElem?_eq_some_iff.1 ho2').1
          have hi2x : i2 = x := by
            rw [bL hs2 hlt2 true false] at h02
            by_cases e2 : i = i2
            · subst e2; rw [Array.getD_eq_getD_getElem?] at h02; simp [hs, hlt2] at h02
            · rw [getD_set_ne false e2] at h02
              rcases Nat.lt_or_ge i2 i with h9 | h9
              · by_cases e3 : i2 = x
                · exact e3
                · rw [hallx i2 h9 e3] at h02; cases h02
              · exfalso
                have hd := tail3_x ht
                rw [show i + 1 = i2 by omega] at hd
                obtain ⟨o', ho', e, he, h3', h4'⟩ := fi hd
                rw [ho2'] at ho'
                obtain rfl := Option.some.inj ho'
                have := hedge2 e he h4'
                rw [h3', hx2] at this; cases this
          subst hi2x
          rw [hx] at ho2'
          simp only [Option.some.injEq] at ho2'
          subst ho2'
          unfold wpOp
          rw [ho2]
          simp only
          rw [if_pos (by rfl)]
          left
          show Oper.wp P _ a w3 _ _
          unfold Oper.wp
          rw [hrunx w3, Oper.upon_value]
          show wpAny P .any l.toArray (KQ P fin k) f _ (a.put (some dx) vx) w3
          rw [hputx]
          exact ec hdr (p0 := i) hnx (l.length - (i + 1)) (i + 1) f _ _ _ rfl (by omega) (by omega) (by omega) hsx hend2 (hafter v w3 hv _ hF)
        have hil : listed.getD i false = false := by rw [bL hs hlt false true]; exact h0
        have hidn : ∀ d, o.dst = some d → hasDst l i = true ∧ dstOf l i = d ∧ d < n := by
          intro d hd
          have hdd : dstOf l i = d := by simp [dstOf, ho', hd]
          refine ⟨by simp [hasDst, ho', hd], hdd, ?_⟩
          have h8 := List.all_eq_true.1 hdr i (List.mem_range.2 hlt)
          simp only [ho', Bool.and_eq_true] at h8
          rw [hdd] at h8
          exact ba h8.1.1
        have hids : hasDst l i = true → ∃ d, o.dst = some d := by
          intro hid
          unfold hasDst at hid; rw [ho'] at hid
          cases hd : o.dst with
          | none => rw [Option.bind_some, hd] at hid; cases hid
          | some d => exact ⟨d, rfl⟩
        have hleft := dY hlt hs h0
        have hun' : ∀ j, p ≤ j → j < l.length → (listed.setIfInBounds i true).getD j false = false := fun j h1 h2 => by rw [getD_set_ne false (by omega)]; exact hun j h1 h2
        have hlp' : ∀ j, (listed.setIfInBounds i true).getD j false = true → j < p := by
          intro j hj
          by_cases hij : i = j
          · subst hij; exact hip
          · rw [getD_set_ne false hij] at hj; exact hlp j hj
        have hcl' : ∀ m j, (listed.setIfInBounds i true).getD m false = true → depB l m j = true → (listed.setIfInBounds i true).getD j false = true := by
          intro m j hm hd
          have hj : listed.getD j false = true := by
            by_cases him : i = m
            · exact hdepl j (him ▸ hd)
            · rw [getD_set_ne false him] at hm; exact hcl m j hm hd
          by_cases hij : i = j
          · subst hij; rw [hil] at hj; cases hj
          · rw [getD_set_ne false hij]; exact hj
        have hput : ∀ v, hasDst l i = true → (a.put o.dst v).tmps.getD (dstOf l i) undef = v := by
          intro v hid
          obtain ⟨d, hod⟩ := hids hid
          obtain ⟨_, hdd, hdn⟩ := hidn d hod
          rw [hdd, hod]; simp [Act.put, Array.getD_eq_getD_getElem?, hk.size, hdn]
        have hputo : ∀ v j, j < p → hasDst l j = true → i ≠ j → (a.put o.dst v).tmps.getD (dstOf l j) undef = a.tmps.getD (dstOf l j) undef := by
          intro v j hj hdj hij
          cases hod : o.dst with
          | none => rfl
          | some d =>
            obtain ⟨hid, hdd, hdn⟩ := hidn d hod
            have hne : d ≠ dstOf l j := fun e => hij (cP hdr hlt (by omega) hid hdj (by rw [hdd, e]))
            simp only [Act.put, Array.getD_eq_getD_getElem?]; rw [Array.getElem?_setIfInBounds_ne hne]
        have hkput : ∀ v, Kn n f0 (a.put o.dst v) := by
          intro v
          cases hod : o.dst with
          | none => exact hk
          | some d =>
            obtain ⟨hid, hdd, hdn⟩ := hidn d hod
            exact hk.putOther (by rw [← hdd]; exact hfree i hip hid) v
        have hpre : ∀ j, j ∈ pre → j ∈ plan := fun j hj => by rw [h1]; simp [hj]
        have hpredep : ∀ j, depB l i j = true → j ∈ pre → hasDst l j = true → a.tmps.getD (dstOf l j) undef = vs j := fun j hj hjp hjd => (h6 j (hdepl j hj)).elim (fun h => absurd h (hnf j (hpre j hjp))) (fun h => h.2 hjd)
        have hfd : ∀ q, q ∈ fl → hasDst l q.1 = true := by
          intro q hq
          obtain ⟨d, ty, pos, aft, s, by_, hg, _⟩ := hfl q hq
          unfold hasDst; rw [hg]; rfl
        have step : ∀ f1, Kn n f1 a → ∀ R : Value → World → Prop, PStep P n l.toArray o f1 w' R → (∀ v w2, R v w2 → wpAny P .any l.toArray (KQ P fin k) fuel (listed.setIfInBounds i true) (a.put o.dst v) w2) → wpOp P l.toArray (KQ P fin k) i (wpAny P .any l.toArray (KQ P fin k) fuel (listed.setIfInBounds i true)) a w' := by
          intro f1 hkf R hp hn
          obtain ⟨p1, p2⟩ := hp a hkf (wpAny P .any l.toArray (KQ P fin k) fuel (listed.setIfInBounds i true)) (KQ P fin k) hn
          unfold wpOp
          rw [ho]
          simp only
          by_cases hw : Region.wanted o (yielded l.toArray a.tmps) = true
          · rw [if_pos hw]; exact .inl (p1 hw)
          · rw [if_neg hw]; exact p2 (eq_false_of_ne_true hw)
        rcases hmem i hip with hpl1 | ⟨q, hqf, hqi⟩
        · have hpm := hpl1
          rw [h1] at hpm
          have hifl : ∀ q, q ∈ fl → i ≠ q.1 := fun q hq e => hnf i hpl1 ⟨q, hq, e.symm⟩
          rcases List.mem_append.1 hpm with hpre1 | hrs
          · have hcb : cs.contains i = false := by
              cases hc : cs.contains i with
              | false => rfl
              | true => have := h5 i hpre1 hc; rw [hil] at this; cases this
            obtain ⟨o2, f1, g1, g2, g3⟩ := h4 i hpre1 hcb
            rw [ho'] at g1
            simp only [Option.some.injEq] at g1
            subst g1
            refine step f1 (hD hk g2 hpredep) _ (g3 w' (Keep.refl _ _)) ?_
            rintro v w2 ⟨rfl, rfl⟩
            refine ih _ _ _ (by simpa using hs) (by omega) (hkput _) hun' hlp' hcl' hsz ⟨pre, rest, vs, bs, h1, h2, h3, h4, fun j hj hc => ?_, fun j hj => ?_, fun q hq hlq => ?_, h8, fun q q' hq hq' hl1 hl2 => ?_⟩
            · by_cases hij : i = j
              · subst hij; rw [hcb] at hc; cases hc
              · rw [getD_set_ne false hij]; exact h5 j hj hc
            · by_cases hij : i = j
              · subst hij; exact .inr ⟨hpre1, hput _⟩
              · rw [getD_set_ne false hij] at hj
                rcases h6 j hj with h | ⟨m1, m2⟩
                · exact .inl h
                · have hpj := hplan j (hpre j m1)
                  exact .inr ⟨m1, fun hjd => by rw [hputo _ j hpj.1 hjd hij]; exact m2 hjd⟩
            · rw [getD_set_ne false (hifl q hq)] at hlq
              obtain ⟨m1, m2⟩ := h7 q hq hlq
              exact ⟨by rw [hputo _ q.1 (hfl1 q hq).1 (hfd q hq) (hifl q hq)]; exact m1, m2⟩
            · rw [getD_set_ne false (hifl q hq)] at hl1
              rw [getD_set_ne false (hifl q' hq')] at hl2
              exact h9 q q' hq hq' hl1 hl2
          · cases rest with
            | nil => cases hrs
            | cons c r =>
              have hcc := h2 c r rfl
              rw [h1] at heag
              obtain ⟨he1, he2⟩ := cJ heag
              rcases List.mem_cons.1 hrs with hic | hir
              · subst hic
                have h30 := h3
                unfold PA at h30
                obtain ⟨o2, f1, g1, g2, g3, g4⟩ := h30
                rw [ho'] at g1
                simp only [Option.some.injEq] at g1
                subst g1
                rcases g4 with ⟨_, g4⟩ | ⟨g4, _⟩
                · have hlk := kw (f0 := f0) hdr hpl (fun j hj => (hplan j (hpre j hj)).1) g2 g3
                  refine step f1 (hD hk hlk hpredep) _ (g4 w' (Keep.refl _ _)) ?_
                  rintro v w2 ⟨hkw, hcv, hpw⟩
                  have hni : i ∉ pre := fun hm => he2 i hm (by simp)
                  have hnr : i ∉ pre.reverse := by simpa using hni
                  have hmm : ∀ j, j ∈ pre → j ∈ pre ++ [i] ∧ setV vs i v j = vs j := fun j hj => ⟨by simp [hj], dJ vs v (fun e => hni (e ▸ hj))⟩
                  obtain ⟨pre', rest', vs', k1, k2, k3, k4, k5, k6⟩ := absorbA (f0 := f0) (T := T) (O := (fun x => x < w.heap.size ∨ fl = [])) (cb := fun i => cs.contains i) hdr hpl r (pre ++ [i]) (setV vs i v) w2 (by rw [List.append_assoc, List.singleton_append]; exact heag) (by rw [List.append_assoc, List.singleton_append, ← h1]; exact hplan)
                    (by rw [List.reverse_append, List.reverse_singleton, List.singleton_append, iN, ci, fh hnr]; exact hpw)
                    (fun j hj hcj => by
                      rcases List.mem_append.1 hj with h | h
                      · exact (h4 j h hcj).mono h hmm hkw
                      · rw [List.mem_singleton] at h
                        subst h; rw [hcc] at hcj; cases hcj)
                  have hsame : ∀ j, j ∈ pre → j ∈ pre' ∧ vs' j = vs j := fun j hj => ⟨(k2 j (hmm j hj).1).1, ((k2 j (hmm j hj).1).2).trans (hmm j hj).2⟩
                  have hci := k2 i (by simp)
                  rw [ci] at hci
                  have hcall : ∀ j, j ∈ pre' → cs.contains j = true → j ∈ pre ∧ vs' j = vs j ∨ j = i := by
                    intro j hj hc
                    rcases k3 j hj with h | h
                    · rcases List.mem_append.1 h with h | h
                      · exact .inl ⟨h, (hsame j h).2⟩
                      · rw [List.mem_singleton] at h; exact .inr h
                    · rw [hc] at h; cases h
                  refine ih _ _ _ (by simpa using hs) (by omega) (hkput _) hun' hlp' hcl' (Nat.le_trans hsz hkw.size) ⟨pre', rest', vs', bs, by rw [← k1, h1]; simp, k4, k5, k6, fun j hj hc => ?_, fun j hj => ?_, fun q hq hlq => ?_, fun j hj hc x hx => ?_, fun q q' hq hq' hl1 hl2 => ?_⟩
                  · by_cases hij : i = j
                    · subst hij
                      rw [Array.getD_eq_getD_getElem?]; simp [hs, hlt]
                    · rw [getD_set_ne false hij]
                      rcases hcall j hj hc with h | h
                      · exact h5 j h.1 hc
                      · exact absurd h.symm hij
                  · by_cases hij : i = j
                    · subst hij; exact .inr ⟨hci.1, fun hid => by rw [hput _ hid, hci.2]⟩
                    · rw [getD_set_ne false hij] at hj
                      rcases h6 j hj with h | ⟨m1, m2⟩
                      · exact .inl h
                      · have hpj := hplan j (hpre j m1)
                        exact .inr ⟨(hsame j m1).1, fun hjd => by rw [hputo _ j hpj.1 hjd hij, (hsame j m1).2]; exact m2 hjd⟩
                  · rw [getD_set_ne false (hifl q hq)] at hlq
                    obtain ⟨m1, m2, m3, m4, m5⟩ := h7 q hq hlq
                    refine ⟨by rw [hputo _ q.1 (hfl1 q hq).1 (hfd q hq) (hifl q hq)]; exact m1, m2, Nat.lt_of_lt_of_le m3 hkw.size, m4.keep hkw (fun hm => by have := hT _ hm; omega), fun j hj hc x hx => ?_⟩
                    rcases hcall j hj hc with ⟨h, e⟩ | h
                    · rw [e] at hx; exact m5 j h hc x hx
                    · subst h
                      rw [hci.2] at hx
                      have := (hcv x hx).1
                      intro e
                      rcases this with (h3 | h3) | h3
                      · omega
                      · rw [h3] at hq; cases hq
                      · omega
                  · rcases hcall j hj hc with ⟨h, e⟩ | h
                    · rw [e] at hx; exact Nat.lt_of_lt_of_le (h8 j h hc x hx) hkw.size
                    · subst h
                      rw [hci.2] at hx
                      exact (hcv x hx).2
                  · rw [getD_set_ne false (hifl q hq)] at hl1
                    rw [getD_set_ne false (hifl q' hq')] at hl2
                    exact h9 q q' hq hq' hl1 hl2
                · rw [hcc] at g4; cases g4
              · exfalso
                simp only [eager, Bool.and_eq_true] at he1
                have h7 := he1.1.2
                rw [hcc, Bool.not_true, Bool.false_or] at h7
                have h8 := List.all_eq_true.1 h7 i hir
                obtain ⟨j, hj, hdj⟩ := List.any_eq_true.1 h8
                have hjp : j ∈ plan := by rw [h1]; exact List.mem_append_right _ hj
                rcases h6 j (hdepl j hdj) with h | h
                · exact hnf j hjp h
                · exact he2 j h.1 hj
        · subst hqi
          obtain ⟨d', ty, pos, aft, s, by_, hg, hTy⟩ := hfl q hqf
          rw [hg] at ho'
          simp only [Option.some.injEq] at ho'
          have hnp : q.1 ∉ pre := fun hm => (hfl1 q hqf).2 (hpre _ hm)
          refine step [] ⟨hk.size, hk.defers, fun t v h => by cases h⟩ (fun v' w2 => ∃ b, v' = .pointer (some ⟨b, 0, none⟩) ∧ b = w'.heap.size ∧ Bk w2 b q.2.1 q.2.2 ∧ Keep [] w' w2 ∧ w2.heap.size = w'.heap.size + 1) ?_ ?_
          · subst ho'
            intro a1 ha1 K Q hK
            refine ⟨fun _ => ab (n := n) (f := []) hTy a1 ha1 _ _ _ _ K Q hK, fun h => by simp [Region.wanted] at h⟩
          · rintro v w2 ⟨b, rfl, rfl, hb, hkb, hsb⟩
            have hqne : ∀ q', q' ∈ fl → q'.1 ≠ q.1 → q.1 ≠ q'.1 := fun q' _ h e => h e.symm
            refine ih _ _ _ (by simpa using hs) (by omega) (hkput _) hun' hlp' hcl' (by omega) ⟨pre, rest, vs, setB bs q.1 w'.heap.size, h1, h2, PA.grow hgrow _ _ _ _ hkb h3, fun j hj hc => (h4 j hj hc).mono hj (fun j hj => ⟨hj, rfl⟩) hkb.weak, fun j hj hc => ?_, fun j hj => ?_, fun q' hq' hlq => ?_, fun j hj hc x hx => by have := h8 j hj hc x hx; omega, fun q1 q2 hq1 hq2 hl1 hl2 hne => ?_⟩
            · rw [getD_set_ne false (fun e => hnp (by rw [e]; exact hj))]; exact h5 j hj hc
            · by_cases hij : q.1 = j
              · exact .inl ⟨q, hqf, hij⟩
              · rw [getD_set_ne false hij] at hj
                rcases h6 j hj with h | ⟨m1, m2⟩
                · exact .inl h
                · have hpj := hplan j (hpre j m1)
                  exact .inr ⟨m1, fun hjd => by rw [hputo _ j hpj.1 hjd hij]; exact m2 hjd⟩
            · by_cases hqq : q.1 = q'.1
              · have hqe : q' = q := nx hnd hqf hq' hqq
                subst hqe
                refine ⟨by rw [hput _ (hfd q' hqf), cL], by rw [cL]; omega, by rw [cL]; omega, by rw [cL]; exact hb, fun j hj hc x hx => ?_⟩
                rw [cL]
                have := h8 j hj hc x hx
                omega
              · rw [getD_set_ne false hqq] at hlq
                obtain ⟨m1, m2, m3, m4, m5⟩ := h7 q' hq' hlq
                rw [cr bs _ (Ne.symm hqq)]
                exact ⟨by rw [hputo _ q'.1 (hfl1 q' hq').1 (hfd q' hq') hqq]; exact m1, m2, by omega, m4.pK hkb, m5⟩
            · by_cases e1 : q.1 = q1.1
              · have e2 : q.1 ≠ q2.1 := fun e => hne (e1.symm.trans e)
                rw [getD_set_ne false e2] at hl2
                rw [← e1, cL, cr bs _ (Ne.symm e2)]
                have := (h7 q2 hq2 hl2).2.2.1
                omega
              · rw [getD_set_ne false e1] at hl1
                rw [cr bs _ (Ne.symm e1)]
                by_cases e2 : q.1 = q2.1
                · rw [← e2, cL]
                  have := (h7 q1 hq1 hl1).2.2.1
                  omega
                · rw [getD_set_ne false e2] at hl2
                  rw [cr bs _ (Ne.symm e2)]
                  exact h9 q1 q2 hq1 hq2 hl1 hl2 hne
  obtain ⟨pre', rest', vs', k1, k2, k3, k4, k5, k6⟩ := absorbA (f0 := f0) (T := T) (O := (fun x => x < w.heap.size ∨ fl = [])) (cb := fun i => cs.contains i) hdr hpl plan [] (fun _ => undef) _ heag hplan (h _ (cj w)) (fun i hi => by cases hi)
  have hemp : ∀ i, ¬ (Array.replicate l.toArray.size false).getD i false = true := by
    intro i hi
    rw [Array.getD_eq_getD_getElem?] at hi
    rcases Nat.lt_or_ge i l.toArray.size with h' | h'
    · rw [Array.getElem?_eq_getElem (by simpa using h')] at hi; simp at hi
    · rw [Array.getElem?_eq_none (by simpa using h')] at hi; simp at hi
  refine key _ _ a _ (by simp) ?_ ha0 ?_ (fun i hi => absurd hi (hemp i)) (fun i _ hi => absurd hi (hemp i)) (Nat.le_refl _) ⟨pre', rest', vs', fun _ => 0, k1, k4, k5, k6, fun i hi hc => ?_, fun i hi => absurd hi (hemp i), fun q _ hq => absurd hq (hemp _), fun j hj hc => ?_, fun q q' _ _ hq => absurd hq (hemp _)⟩
  · unfold left
    have := List.countP_le_length (p := fun i => !(Array.replicate l.toArray.size false).getD i true) (l := List.range l.length)
    simpa using this
  · intro i _ hi
    rw [Array.getD_eq_getD_getElem?, Array.getElem?_eq_getElem (by simpa using hi)]; simp
  · rcases k3 i hi with h | h
    · cases h
    · rw [hc] at h; cases h
  · rcases k3 j hj with h | h
    · cases h
    · rw [hc] at h; cases h
theorem jI {l : List Oper} {p s0 dx : Nat} {O : Nat → Prop} {T cs : List Nat} {fl : List (Nat × TypeId × List Value)} (h : ∀ w2, Keep [] w w2 → FinG P n l p s0 cs f (TailX P fin n k l p dx) fl [] f w2) : PA P n l p T O (fun i => cs.contains i) (fun f' w' => ∀ w2, Keep [] w' w2 → FinG P n l p s0 cs f' (TailX P fin n k l p dx) fl [] f' w2) [] f w := by unfold PA; exact h
theorem iJ {l : List Oper} {p s0 : Nat} {cs : List Nat} {fc : Fr} {G : Fr → World → Prop} {seen : List Nat} (h : G f w) : FinG P n l p s0 cs fc G [] seen f w := h
theorem tailx {l : List Oper} {p dx : Nat} (f13 : Fr) {op : Op} {ty : TypeId} {pos : String} {aft : Array Edge} {R : Value → World → Prop} (e : l[p]? = some ⟨none, op, ty, pos, aft, none⟩) (hs : Fr.sub f13 f) (hn : (f13.all fun q => q.1 != dx) = true) (hd : Does P n f13 w op ty R)
    (h : ∀ v w', R v w' → OW P fin n k l.toArray (l.drop (p + 1)) f w') : TailX P fin n k l p dx f w := ⟨f13, op, ty, pos, aft, R, e, hs, hn, hd, h⟩
end
end Go.Eng
namespace Go.Eng
open Go Go.IntWalk
theorem fv (v : BitVec 64) : IntKind.u64.wrap (v.toNat : Int) = v.toNat := IntWalk.u64_in _ (by have := v.isLt; omega)
theorem cu (v : BitVec 64) : BitVec.ofInt 64 (v.toNat : Int) = v := by rw [BitVec.ofInt_natCast, BitVec.ofNat_toNat]; simp
theorem and_u64 (x y : Int) : bits .and .u64 x y = ((BitVec.ofInt 64 x &&& BitVec.ofInt 64 y).toNat : Int) := fv _
theorem or_u64 (x y : Int) : bits .or .u64 x y = ((BitVec.ofInt 64 x ||| BitVec.ofInt 64 y).toNat : Int) := fv _
theorem lP (x y : Int) : bits .xor .u64 x y = ((BitVec.ofInt 64 x ^^^ BitVec.ofInt 64 y).toNat : Int) := fv _
end Go.Eng
namespace Go.Byt
def byteAt (n : Int) (i : Nat) : UInt8 := UInt8.ofNat ((n / 2 ^ (8 * i)) % 256).toNat
theorem fm (n : Int) (i : Nat) : ((byteAt n i).toNat : Int) = (n / 2 ^ (8 * i)) % 256 := by
 unfold byteAt
 have h1 : 0 ≤ (n / 2 ^ (8 * i)) % 256 := Int.emod_nonneg _ (by decide)
 have h2 : (n / 2 ^ (8 * i)) % 256 < 256 := Int.emod_lt_of_pos _ (by decide)
 simp only [UInt8.toNat_ofNat']
 omega
def be (n : Int) (size : Nat) : List UInt8 := (List.range size).map fun j => byteAt n (size - 1 - j)
@[simp] theorem dc (n : Int) (size : Nat) : (be n size).length = size := by simp [be]
def putI (n : Int) (size i : Nat) : List UInt8 := (List.range size).map fun j => if size - 1 - j < i then byteAt n (size - 1 - j) else 0
@[simp] theorem putI_length (n : Int) (size i : Nat) : (putI n size i).length = size := by simp [putI]
theorem mL {α : Type} (l : List α) (i : Nat) (h : i < l.length) : l.take (i + 1) = l.take i ++ [l[i]] := by
 rw [List.take_succ_eq_append_getElem h]
theorem dp {α : Type} {l : List α} {i : Nat} {x : α} (h : l[i]? = some x) : l.take (i + 1) = l.take i ++ [x] := by
 obtain ⟨hlt, rfl⟩ := List.getElem?_eq_some_iff.1 h
 exact mL l i hlt
theorem eb {α : Type} (l : List (List α)) (i : Nat) : (l.take i).flatten.length ≤ l.flatten.length := by
 have : l.flatten = (l.take i).flatten ++ (l.drop i).flatten := by rw [← List.flatten_append, List.take_append_drop]
 rw [this, List.length_append]; omega
theorem eF {α : Type} {l : List (List α)} {i : Nat} {x : List α} (h : l[i]? = some x) : (l.take i).flatten.length + x.length ≤ l.flatten.length := by
 have h1 := eb l (i + 1)
 rw [dp h] at h1
 simpa using h1
end Go.Byt
namespace Go.Sha
open Go Go.Eng Go.Byt
abbrev T3 := Nat × Nat × Nat
structure Pl (n : Nat) where
  R : Nat
  l0 : T3
  l1 : T3
  u0 : T3
  u1 : T3
structure S8 (n : Nat) where
  a : BitVec n
  b : BitVec n
  c : BitVec n
  d : BitVec n
  e : BitVec n
  f : BitVec n
  g : BitVec n
  h : BitVec n
section
variable {n : Nat}
def tn (x : BitVec n) (r : Nat) : BitVec n := (x >>> r) ||| (x <<< (n - r))
def lo (l : T3) (x : BitVec n) : BitVec n := tn x l.1 ^^^ tn x l.2.1 ^^^ (x >>> l.2.2)
def hi (l : T3) (x : BitVec n) : BitVec n := tn x l.1 ^^^ tn x l.2.1 ^^^ tn x l.2.2
def wrdF (x : BitVec n) (b : List UInt8) : BitVec n := b.foldl (fun a c => (a <<< 8) ||| BitVec.ofNat n c.toNat) x
def wrd (n : Nat) (b : List UInt8) (i : Nat) : BitVec n := wrdF 0 ((b.drop (n / 8 * i)).take (n / 8))
def nxt (P : Pl n) (w : List (BitVec n)) (t : Nat) : BitVec n := lo P.l1 (w.getD (t - 2) 0) + w.getD (t - 7) 0 + lo P.l0 (w.getD (t - 15) 0) + w.getD (t - 16) 0
def sch (P : Pl n) (b : List UInt8) : Nat → List (BitVec n)
 | 0 => (List.range 16).map (wrd n b)
 | k + 1 => sch P b k ++ [nxt P (sch P b k) (16 + k)]
theorem eR (P : Pl n) (b : List UInt8) : ∀ k, (sch P b k).length = 16 + k
 | 0 => by simp [sch]
 | k + 1 => by rw [sch, List.length_append, eR P b k]; rfl
def cst (n : Nat) (K : List Nat) (t : Nat) : BitVec n := BitVec.ofNat n (K.getD t 0 / 2 ^ (64 - n))
def rnd (P : Pl n) (k w : BitVec n) (x : S8 n) : S8 n :=
 let t1 := x.h + hi P.u1 x.e + ((x.e &&& x.f) ^^^ (~~~x.e &&& x.g)) + k + w
 let t2 := hi P.u0 x.a + ((x.a &&& x.b) ^^^ (x.a &&& x.c) ^^^ (x.b &&& x.c))
 ⟨t1 + t2, x.a, x.b, x.c, x.d + t1, x.e, x.f, x.g⟩
def rnds (P : Pl n) (K : List Nat) (w : List (BitVec n)) (s : S8 n) : Nat → S8 n
 | 0 => s
 | t + 1 => rnd P (cst n K t) (w.getD t 0) (rnds P K w s t)
def plus8 (x y : S8 n) : S8 n := ⟨x.a + y.a, x.b + y.b, x.c + y.c, x.d + y.d, x.e + y.e, x.f + y.f, x.g + y.g, x.h + y.h⟩
def blk (P : Pl n) (K : List Nat) (b : List UInt8) (s : S8 n) : S8 n := plus8 s (rnds P K (sch P b (P.R - 16)) s P.R)
def zs (n len : Nat) : Nat := (4 * n - n / 4 - 1 - len % (2 * n)) % (2 * n)
def pad (n : Nat) (b : List UInt8) : List UInt8 := b ++ 128 :: (List.replicate (zs n b.length + (n / 4 - 8)) 0 ++ be (8 * b.length) 8)
def blks (P : Pl n) (K : List Nat) : Nat → List UInt8 → S8 n → S8 n
 | 0, _, s => s
 | m + 1, b, s => blks P K m (b.drop (2 * n)) (blk P K (b.take (2 * n)) s)
def out8 (s : S8 n) : List UInt8 := [s.a, s.b, s.c, s.d, s.e, s.f, s.g, s.h].flatMap fun x => be x.toNat (n / 8)
def st8 (n : Nat) (H : List Nat) : S8 n := ⟨cst n H 0, cst n H 1, cst n H 2, cst n H 3, cst n H 4, cst n H 5, cst n H 6, cst n H 7⟩
def sum (P : Pl n) (K H : List Nat) (b : List UInt8) : List UInt8 := out8 (blks P K ((pad n b).length / (2 * n)) (pad n b) (st8 n H))
end
def dW : Pl 64 := ⟨80, (1, 8, 7), (19, 61, 6), (28, 34, 39), (14, 18, 41)⟩
theorem iz {n len : Nat} (h8 : 8 ∣ n) (h0 : 32 ≤ n) : zs n len < 2 * n ∧ (len + 1 + zs n len) % (2 * n) = 2 * n - n / 4 := by
 obtain ⟨q, rfl⟩ := h8
 unfold zs
 have e : 8 * q / 4 = 2 * q := by omega
 rw [e]
 have hr : len % (2 * (8 * q)) < 2 * (8 * q) := Nat.mod_lt _ (by omega)
 obtain ⟨r, hr'⟩ : ∃ r, r = len % (2 * (8 * q)) := ⟨_, rfl⟩
 have hd := Nat.div_add_mod len (2 * (8 * q))
 rw [← hr'] at hr hd ⊢
 refine ⟨Nat.mod_lt _ (by omega), ?_⟩
 by_cases hc : 4 * (8 * q) - 2 * q - 1 - r < 2 * (8 * q)
 · rw [Nat.mod_eq_of_lt hc, ← hd, show 2 * (8 * q) * (len / (2 * (8 * q))) + r + 1 + (4 * (8 * q) - 2 * q - 1 - r) = 2 * (8 * q) - 2 * q + 2 * (8 * q) * (len / (2 * (8 * q)) + 1) from by rw [Nat.mul_add]; omega, Nat.add_mul_mod_self_left, Nat.mod_eq_of_lt (by omega)]
 · have e2 : (4 * (8 * q) - 2 * q - 1 - r) % (2 * (8 * q)) = 2 * (8 * q) - 2 * q - 1 - r := by
     rw [show 4 * (8 * q) - 2 * q - 1 - r = 2 * (8 * q) - 2 * q - 1 - r + 2 * (8 * q) * 1 from by omega, Nat.add_mul_mod_self_left, Nat.mod_eq_of_lt (by omega)]
   rw [e2, ← hd, show 2 * (8 * q) * (len / (2 * (8 * q))) + r + 1 + (2 * (8 * q) - 2 * q - 1 - r) = 2 * (8 * q) - 2 * q + 2 * (8 * q) * (len / (2 * (8 * q))) from by omega, Nat.add_mul_mod_self_left, Nat.mod_eq_of_lt (by omega)]
theorem gu {n : Nat} (b : List UInt8) : (pad n b).length = b.length + 1 + zs n b.length + (n / 4 - 8) + 8 := by
 unfold pad; rw [List.length_append, List.length_cons, List.length_append, List.length_replicate, dc]; omega
theorem xor64 (x y : BitVec 64) : bits .xor .u64 (x.toNat : Int) (y.toNat : Int) = ((x ^^^ y).toNat : Int) := by rw [lP, cu, cu]
theorem or64 (x y : BitVec 64) : bits .or .u64 (x.toNat : Int) (y.toNat : Int) = ((x ||| y).toNat : Int) := by rw [or_u64, cu, cu]
theorem and64 (x y : BitVec 64) : bits .and .u64 (x.toNat : Int) (y.toNat : Int) = ((x &&& y).toNat : Int) := by rw [and_u64, cu, cu]
theorem fQ (x : Int) : IntKind.u64.wrap x = x % 18446744073709551616 := cH (by decide) x
theorem add64 (x y : BitVec 64) : IntKind.u64.wrap ((x.toNat : Int) + (y.toNat : Int)) = ((x + y).toNat : Int) := by
 rw [fQ, BitVec.toNat_add]; omega
theorem shr64 (x : BitVec 64) (r : Nat) : (x.toNat : Int) / 2 ^ r = ((x >>> r).toNat : Int) := by
 rw [BitVec.toNat_ushiftRight, Nat.shiftRight_eq_div_pow]; exact_mod_cast rfl
theorem shl64 (x : BitVec 64) (r : Nat) : IntKind.u64.wrap ((x.toNat : Int) * 2 ^ r) = ((x <<< r).toNat : Int) := by
 rw [fQ, BitVec.toNat_shiftLeft, Nat.shiftLeft_eq, Int.natCast_emod, Int.natCast_mul, Int.natCast_pow]; rfl
theorem com64 (x : BitVec 64) : bits .xor .u64 18446744073709551615 (x.toNat : Int) = ((~~~x).toNat : Int) := by
 rw [lP, cu]
 have e : BitVec.ofInt 64 18446744073709551615 = BitVec.allOnes 64 := by decide
 rw [e, BitVec.xor_comm, BitVec.xor_allOnes]
theorem byt64 (c : UInt8) : ((c.toNat : Nat) : Int) = ((BitVec.ofNat 64 c.toNat).toNat : Int) := by
 rw [BitVec.toNat_ofNat, Nat.mod_eq_of_lt (by have := c.toNat_lt; omega)]
section
variable {n : Nat}
def wN (l : List (BitVec n)) : Nat → Int := fun j => ((l.getD j 0).toNat : Int)
theorem wN_nil : wN ([] : List (BitVec n)) = fun _ => 0 := by funext j; simp [wN]
theorem lQ (l : List (BitVec n)) : wN (l ++ [0]) = wN l := by
 funext j
 unfold wN
 rcases Nat.lt_trichotomy j l.length with h | h | h
 · rw [List.getD_eq_getElem?_getD, List.getD_eq_getElem?_getD, List.getElem?_append_left h]
 · subst h; simp
 · rw [List.getD_eq_getElem?_getD, List.getD_eq_getElem?_getD, List.getElem?_eq_none (by simp; omega), List.getElem?_eq_none (by omega)]
theorem lR (l : List (BitVec n)) (x : BitVec n) {i : Nat} (h : l.length = i) : wN (l ++ [x]) i = (x.toNat : Int) := by
 subst h; simp [wN]
theorem gH (l : List (BitVec n)) (x y : BitVec n) {i : Nat} (h : l.length = i) : upd (wN (l ++ [x])) i (y.toNat : Int) = wN (l ++ [y]) := by
 subst h
 funext j
 by_cases hne : j = l.length
 · subst hne; rw [cO, lR l y rfl]
 · rw [bH _ _ hne]
   unfold wN
   simp only [List.getD_eq_getElem?_getD]
   rcases Nat.lt_or_gt_of_ne hne with h | h
   · rw [List.getElem?_append_left h, List.getElem?_append_left h]
   · rw [List.getElem?_eq_none (by simp; omega), List.getElem?_eq_none (by simp; omega)]
theorem kX (l : List (BitVec n)) (y : BitVec n) {i : Nat} (h : l.length = i) : upd (wN l) i (y.toNat : Int) = wN (l ++ [y]) := by
 rw [← lQ l]; exact gH l 0 y h
theorem mE {x : BitVec n} {b : List UInt8} {k : Nat} {c : UInt8} (h : b[k]? = some c) : wrdF x (b.take (k + 1)) = (wrdF x (b.take k) <<< 8) ||| BitVec.ofNat n c.toNat := by
 rw [dp h]; unfold wrdF; rw [List.foldl_append]; rfl
theorem mD (b : List UInt8) (i : Nat) : (List.range (i + 1)).map (wrd n b) = (List.range i).map (wrd n b) ++ [wrd n b i] := by rw [List.range_succ, List.map_append]; rfl
def nF (s : S8 n) : List (BitVec n) := [s.a, s.b, s.c, s.d, s.e, s.f, s.g, s.h]
end
def KB (K : List Nat) : List (BitVec 64) := K.map (BitVec.ofNat 64)
theorem fj (K : List Nat) (t : Nat) : ((KB K).getD t 0) >>> 0 = cst 64 K t := by
 unfold KB cst
 rw [BitVec.ushiftRight_zero, List.getD_eq_getElem?_getD, List.getD_eq_getElem?_getD, List.getElem?_map]
 cases K[t]? <;> simp
def Kl : List Nat := [4794697086780616226, 8158064640168781261, 13096744586834688815, 16840607885511220156, 4131703408338449720, 6480981068601479193, 10538285296894168987, 12329834152419229976, 15566598209576043074, 1334009975649890238, 2608012711638119052, 6128411473006802146, 8268148722764581231, 9286055187155687089, 11230858885718282805, 13951009754708518548, 16472876342353939154, 17275323862435702243, 1135362057144423861, 2597628984639134821, 3308224258029322869, 5365058923640841347, 6679025012923562964, 8573033837759648693, 10970295158949994411, 12119686244451234320, 12683024718118986047, 13788192230050041572, 14330467153632333762, 15395433587784984357, 489312712824947311, 1452737877330783856, 2861767655752347644, 3322285676063803686, 5560940570517711597, 5996557281743188959, 7280758554555802590, 8532644243296465576, 9350256976987008742, 10552545826968843579, 11727347734174303076, 12113106623233404929, 14000437183269869457, 14369950271660146224, 15101387698204529176, 15463397548674623760, 17586052441742319658, 1182934255886127544, 1847814050463011016, 2177327727835720531, 2830643537854262169, 3796741975233480872, 4115178125766777443, 5681478168544905931, 6601373596472566643, 7507060721942968483, 8399075790359081724, 8693463985226723168, 9568029438360202098, 10144078919501101548, 10430055236837252648, 11840083180663258601, 13761210420658862357, 14299343276471374635, 14566680578165727644, 15097957966210449927, 16922976911328602910, 17689382322260857208, 500013540394364858, 748580250866718886, 1242879168328830382, 1977374033974150939, 2944078676154940804, 3659926193048069267, 4368137639120453308, 4836135668995329356, 5532061633213252278, 6448918945643986474, 6902733635092675308, 7801388544844847127]
def Hl : List Nat := [7640891576956012808, 13503953896175478587, 4354685564936845355, 11912009170470909681, 5840696475078001361, 11170449401992604703, 2270897969802886507, 6620516959819538809]
end Go.Sha
namespace Go.Sha
open Go Go.Eng Go.Byt
theorem zstep (xs : List UInt8) (j : Nat) : xs ++ 128 :: List.replicate (j + 1) (0 : UInt8) = (xs ++ 128 :: List.replicate j 0) ++ [0] := by simp [List.replicate_succ']
theorem pad_eq (xs : List UInt8) : pad 64 xs = ((xs ++ 128 :: List.replicate (zs 64 xs.length) 0) ++ List.replicate 8 0) ++ be (8 * (xs.length : Int)) 8 := by
 unfold pad
 rw [show 64 / 4 - 8 = 8 from rfl, ← List.replicate_append_replicate]
 simp only [List.append_assoc, List.cons_append]
theorem kr (xs : List UInt8) : (pad 64 xs).length = 128 * ((pad 64 xs).length / (2 * 64)) := by
 have h := iz (n := 64) (len := xs.length) (by decide) (by decide)
 rw [gu]
 omega
theorem pad_le (xs : List UInt8) : (pad 64 xs).length ≤ xs.length + 145 := by
 have h := iz (n := 64) (len := xs.length) (by decide) (by decide)
 rw [gu]
 omega
theorem mz {P : Pl 64} {K : List Nat} {m : Nat} {b : List UInt8} {s : S8 64} (h : 0 < m) : blks P K m b s = blks P K (m - 1) (b.drop 128) (blk P K (b.take 128) s) := by
 obtain ⟨q, rfl⟩ : ∃ q, m = q + 1 := ⟨m - 1, by omega⟩
 rfl
theorem lB {X : S8 64} {i : Nat} {x : BitVec 64} (h : (nF X)[i]? = some x) : ((nF X).take (i + 1)).flatMap (fun x => be (x.toNat : Int) 8) = ((nF X).take i).flatMap (fun x => be (x.toNat : Int) 8) ++ be (x.toNat : Int) 8 := by
  rw [dp h, List.flatMap_append]; simp
end Go.Sha
namespace Go.Eng
open Go Go.IntWalk Go.Sha
section
variable {P : Program} {n : Nat} {f : Fr} {w : World} {ty : TypeId}
theorem cM {op : Op} {v v' : Value} (h : Gives P n f w op ty v w) (e : v = v') : Gives P n f w op ty v' w := by subst e; exact h
theorem fJ {t u : TypeId} {x y : Operand} {a b : BitVec 64} (hx : f.ev x = some (.int .u64 (a.toNat : Int))) (hy : f.ev y = some (.int .u64 (b.toNat : Int))) : Gives P n f w (.binOp .xor t x y u) ty (.int .u64 ((a ^^^ b).toNat : Int)) w :=
 cM (oO hx hy) (by rw [xor64])
theorem gb_or {t u : TypeId} {x y : Operand} {a b : BitVec 64} (hx : f.ev x = some (.int .u64 (a.toNat : Int))) (hy : f.ev y = some (.int .u64 (b.toNat : Int))) : Gives P n f w (.binOp .or t x y u) ty (.int .u64 ((a ||| b).toNat : Int)) w :=
 cM (du hx hy) (by rw [or64])
theorem iA {t u : TypeId} {x y : Operand} {a b : BitVec 64} (hx : f.ev x = some (.int .u64 (a.toNat : Int))) (hy : f.ev y = some (.int .u64 (b.toNat : Int))) : Gives P n f w (.binOp .and t x y u) ty (.int .u64 ((a &&& b).toNat : Int)) w :=
 cM (cY hx hy) (by rw [and64])
theorem cl {t u : TypeId} {x y : Operand} {a b : BitVec 64} (hx : f.ev x = some (.int .u64 (a.toNat : Int))) (hy : f.ev y = some (.int .u64 (b.toNat : Int))) : Gives P n f w (.binOp .add t x y u) ty (.int .u64 ((a + b).toNat : Int)) w :=
 cM (an hx hy) (by rw [add64])
theorem dt {k' : IntKind} {t u : TypeId} {x y : Operand} {a : BitVec 64} {i : Int} (r : Nat) (hx : f.ev x = some (.int .u64 (a.toNat : Int))) (hy : f.ev y = some (.int k' i)) (hi : i = (r : Int)) (h : r ≤ 64) : Gives P n f w (.binOp .shr t x y u) ty (.int .u64 ((a >>> r).toNat : Int)) w := by
 subst hi
 exact cM (fa hx hy ⟨by omega, by simp only [IntKind.bits]; omega⟩) (by rw [Int.toNat_natCast, shr64])
theorem oN {k' : IntKind} {t u : TypeId} {x y : Operand} {a : BitVec 64} {i : Int} (r : Nat) (hx : f.ev x = some (.int .u64 (a.toNat : Int))) (hy : f.ev y = some (.int k' i)) (hi : i = (r : Int)) (h : r ≤ 64) : Gives P n f w (.binOp .shl t x y u) ty (.int .u64 ((a <<< r).toNat : Int)) w := by
 subst hi
 exact cM (ip hx hy ⟨by omega, by simp only [IntKind.bits]; omega⟩) (by rw [Int.toNat_natCast, shl64])
theorem gb_com {t : TypeId} {x : Operand} {a : BitVec 64} (hx : f.ev x = some (.int .u64 (a.toNat : Int))) : Gives P n f w (.unOp .xor t x) ty (.int .u64 ((~~~a).toNat : Int)) w := by
 intro a' ha dst pos aft g
 have h : bits .xor .u64 IntKind.u64.max (a.toNat : Int) = ((~~~a).toNat : Int) := com64 a
 have h2 : (Op.unary .xor (.int .u64 (a.toNat : Int))).run P w = .ok (.int .u64 ((~~~a).toNat : Int)) w := by
   rw [← h]; rfl
 simp [execOp, ha.ev hx, h2]
theorem gb_cv {s t : TypeId} {x : Operand} {i : Int} (c : UInt8) (hs : (P.underlying s).isSome = true) (ht : P.underlying t = some (.int .u64)) (hx : f.ev x = some (.int .u8 i)) (hi : i = (c.toNat : Int)) : Gives P n f w (.convert s t x) ty (.int .u64 ((BitVec.ofNat 64 c.toNat).toNat : Int)) w := by
 subst hi
 refine cM (gC hs ht hx) ?_
 rw [← byt64, fQ, Int.emod_eq_of_lt (by omega) (by have := c.toNat_lt; omega)]
theorem g_sl3 {x y z : Operand} {t e : TypeId} {zs : List Value} {s b m c : Nat} {A : Option Addr} {k k' : IntKind} {h q : Int} (ht : P.underlying t = some (.slice e)) (he : Ty P e zs s b)
   (hx : f.ev x = some (.slice A m c)) (hy : f.ev y = some (.int k h)) (hz : f.ev z = some (.int k' q)) (hb : 0 ≤ h ∧ h ≤ q ∧ q ≤ c) :
   Gives P n f w (.slice t x none (some y) (some z)) ty (.slice (if q.toNat = 0 then A else A.map (·.add (0 * s))) h.toNat q.toNat) w := by
 intro a ha dst pos aft g
 have ht' : P.underlying t = some (.slice (P.elem t)) := by unfold Program.elem; rw [ht]
 have hel : P.elem t = e := by unfold Program.elem; rw [ht]
 have hr := run_slice_hm (P := P) w t A m c ht' k k' h q (by omega) (by omega) (by omega)
 simp only [execOp, ha.ev hx, ha.ev hy, ha.ev hz, Sem.run_bind, Option.map_none, Option.map_some, run_sliceAt_slice w t _ _ _ _ ht', hr, Result.andThen_ok, hel, he.sizeOf, sliced, Sem.run_pure, Nat.sub_zero]
theorem g_sla {x : Operand} {t e : TypeId} {lo hi : Option Operand} {zs : List Value} {s b m blk : Nat} {l h : Int} (ht : P.underlying t = some (.array m e)) (he : Ty P e zs s b)
   (hx : f.ev x = some (.pointer (some ⟨blk, 0, none⟩)))
   (hlo : (lo = none ∧ l = 0) ∨ ∃ o k, lo = some o ∧ f.ev o = some (.int k l)) (hhi : (hi = none ∧ h = m) ∨ ∃ o k, hi = some o ∧ f.ev o = some (.int k h)) (hb : 0 ≤ l ∧ l ≤ h ∧ h ≤ m) (hlm : l < m) :
   Gives P n f w (.slice t x lo hi none) ty (.slice (some ⟨blk, l.toNat * s, none⟩) (h.toNat - l.toNat) (m - l.toNat)) w := by
 intro a ha dst pos aft g
 have hel : P.elem t = e := by unfold Program.elem; rw [ht]
 have hal : P.arrayLen t = m := by unfold Program.arrayLen; rw [ht]
 have ht' : P.underlying t = some (.array (P.arrayLen t) (P.elem t)) := by rw [hel, hal]; exact ht
 have hne : ¬ (m = l.toNat) := by omega
 have e0 : ∀ o, (⟨blk, 0, none⟩ : Addr).add o = ⟨blk, o, none⟩ := fun o => by rw [Addr.add_lit, Nat.zero_add]
 rcases hlo with ⟨rfl, rfl⟩ | ⟨o, kk, rfl, ho⟩ <;> rcases hhi with ⟨rfl, rfl⟩ | ⟨o', kk', rfl, ho'⟩
 · have hr := run_sliceAt_array_all (P := P) w t ⟨blk, 0, none⟩ ht'
   simp only [execOp, ha.ev hx, Sem.run_bind, Option.map_none, Option.map_some, hr, Result.andThen_ok, hel, hal, he.sizeOf, slicedAt, Sem.run_pure, e0]
   have hm0 : ¬ (m = 0) := by omega
   simp [hm0]
 · have hr := run_sliceAt_array_h (P := P) w t ⟨blk, 0, none⟩ ht' kk' h (by omega) (by omega)
   simp only [execOp, ha.ev hx, ha.ev ho', Sem.run_bind, Option.map_none, Option.map_some, hr, Result.andThen_ok, hel, hal, he.sizeOf, slicedAt, Sem.run_pure, e0]
   have hm0 : ¬ (m = 0) := by omega
   simp [hm0]
 · have hr := run_sliceAt_array_l (P := P) w t ⟨blk, 0, none⟩ ht' kk l (by omega) (by omega)
   simp only [execOp, ha.ev hx, ha.ev ho, Sem.run_bind, Option.map_none, Option.map_some, hr, Result.andThen_ok, hel, hal, he.sizeOf, slicedAt, Sem.run_pure, e0, if_neg hne, Int.toNat_natCast]
 · have hr := run_sliceAt_array_lh (P := P) w t ⟨blk, 0, none⟩ ht' kk kk' l h (by omega) (by omega) (by omega)
   simp only [execOp, ha.ev hx, ha.ev ho, ha.ev ho', Sem.run_bind, Option.map_none, Option.map_some, hr, Result.andThen_ok, hel, hal, he.sizeOf, slicedAt, Sem.run_pure, e0, if_neg hne]
theorem d_cpr {t u e : TypeId} {x y : Operand} {blk o o' m m' c c' k by_ : Nat} {T : TypeId} {cs zs : List Value} (ht : P.underlying t = some (.slice e)) (he : Ty P e zs 1 by_)
   (hx : f.ev x = some (.slice (some ⟨blk, o, none⟩) m c)) (hy : f.ev y = some (.slice (some ⟨blk, o', none⟩) m' c')) (hb : Bk w blk T cs) (h1 : ∀ v ∈ cs, v.oneCell' = true) (hk : k = min m' m) (hfo : o + k ≤ cs.length) (hfo' : o' + k ≤ cs.length) :
   Does P n f w (.call { callee := .builtin .copy, args := #[x, y], argTypes := #[t, u] }) ty
     (fun r w' => r = .int .i64 (k : Int) ∧ Bk w' blk T (cs.take o ++ (cs.drop o').take k ++ cs.drop (o + k)) ∧ Keep [blk] w w' ∧ w'.heap.size = w.heap.size) := by
 intro a ha dst pos aft g K Q hK
 obtain ⟨ti, z, hi, hz, hzc, hsz, hby⟩ := he.parts
 have hsz' : (P.info? e).map (·.size) = some 1 := by rw [hi]; simp [hsz]
 have hlen : ((cs.drop o').take k).length = k := by rw [List.length_take, List.length_drop]; omega
 have hrun := run_copy_row (P := P) w t u ty e blk o m c ⟨blk, o', none⟩ m' c' cs.toArray T ((cs.drop o').take k) ht hsz' hb (by rw [hlen]; exact hk) (fun j v hj => by
     rw [List.getElem?_take] at hj
     split at hj
     · rw [List.getElem?_drop] at hj
       rw [Addr.add_lit, hb.cell]; exact hj
     · cases hj) (by rw [hlen, List.size_toArray]; exact hfo) (fun v hv => h1 v (List.mem_of_mem_drop (List.mem_of_mem_take hv)))
 have hr : (execOp a.eval ⟨dst, .call { callee := .builtin .copy, args := #[x, y], argTypes := #[t, u] }, ty, pos, aft, g⟩).run P w = .ok (.value (goInt k)) (w.setRow blk (cs.take o ++ (cs.drop o').take k ++ cs.drop (o + k)).toArray) := by
   rw [hlen] at hrun
   simp [execOp, resolve, invoke, builtin, ha.ev hx, ha.ev hy, hrun]
 unfold Oper.wp
 rw [hr]
 exact hK _ _ ⟨rfl, setRow_heap w blk _ _ T _ hb, dR _ _ _, eB _ _ _⟩
theorem d_appF {t e : TypeId} {x y : Operand} {lo : Nat} {v u : Value} {xs ys : List UInt8} (ht : P.underlying t = some (.slice e)) (he : Ty P e [.int .u8 0] 1 1)
   (hx : f.ev x = some v) (ho : RdB w v xs) (hc : vcap v = xs.length) (hy : f.ev y = some u) (hr : RdB w u ys) (hys : 0 < ys.length) (hb : xs.length + ys.length ≤ 140737488355328) (hl : lo ≤ w.heap.size) :
   Does P n f w (.call { callee := .builtin .append, args := #[x, y], argTypes := #[t, t] }) ty
     (fun v' w' => Own w' lo e 1 v' (xs.length + ys.length) (bv (xs ++ ys)) ∧ Keep [] w w' ∧ (∀ x, x ∈ vblk v' → w.heap.size ≤ x)) := by
 obtain ⟨A, c, rfl, h2, h3, h4, h5, h6⟩ := ho
 simp only [vcap] at hc
 subst hc
 cases A with
 | none =>
   have h0 := h5 rfl
   have hx0 : xs = [] := List.eq_nil_of_length_eq_zero h0
   subst hx0
   exact (eW (lo := lo) ht he hx (dX w lo e 1) hy hr (by simpa using hb) hl).mono fun v' w' ⟨q1, q2, q3, _⟩ => ⟨q1, q2, fun x hx => (q3 x hx).elim (fun h => by cases h) id⟩
 | some a0 =>
   intro a ha dst pos aft g K Q hK
   obtain ⟨ti, z, hi, hz, hzc, hsz, hby⟩ := he.parts
   obtain ⟨A', c', rfl, k2, k3, k4, k5, k6⟩ := hr
   cases A' with
   | none => have := k5 rfl; omega
   | some a' =>
     have hzl : z.cells.size = 1 := by rw [← Array.length_toList, hzc]; rfl
     have hrun := run_append_grow (P := P) w t ty e ti z ht hi hz a0 xs.length xs.length (bv xs) (by rw [bM, hsz, Nat.mul_one]) (h6 a0 rfl) a' ys.length c' (bv ys) (by rw [bM, hsz, Nat.mul_one]) (k6 a' rfl) (by omega) (by omega) (fX (by omega) (by rw [hby]; omega))
     have hr : (execOp a.eval ⟨dst, .call { callee := .builtin .append, args := #[x, y], argTypes := #[t, t] }, ty, pos, aft, g⟩).run P w = .ok (.value (.slice (some ⟨w.heap.size, 0, none⟩) (xs.length + ys.length) (grownCap w (xs.length + ys.length) xs.length e))) (w.drew.alloc (.cells ((bv xs).toArray ++ (bv ys).toArray ++ Builtin.zeroCells z.cells (grownCap w (xs.length + ys.length) xs.length e - (xs.length + ys.length))) e)) := by
       simp [execOp, resolve, invoke, builtin, ha.ev hx, ha.ev hy, hrun]
     unfold Oper.wp
     rw [hr]
     have hge := grownCap_ge w (xs.length + ys.length) xs.length e
     refine hK _ _ ⟨⟨by rw [bM, List.length_append, Nat.mul_one], .inr ⟨w.heap.size, _, _, rfl, hl, eN w.drew e _, hge, grownCap_le_maxLen w _ _ e (eK (by omega)), ?_, ?_⟩⟩, (cj w).trans (ce _ _), fun x hx => by simp only [vblk, List.mem_singleton] at hx; subst hx; exact Nat.le_refl _⟩
     · rw [Array.size_append, Array.size_append, List.size_toArray, List.size_toArray, bM, bM, size_zeroCells, hzl, Nat.mul_one, Nat.mul_one]; omega
     · rw [db, Array.toList_append, Array.toList_append, List.take_append_of_le_length (by simp [bM])]
       simp only [Nat.mul_one]
       rw [List.take_of_length_le (by simp [bM])]
theorem d_appZo {t tn e : TypeId} {x y : Operand} {lo m : Nat} {v : Value} {xs : List UInt8} {k kn : IntKind} {i : Int} (ht : P.underlying t = some (.slice e)) (htn : P.underlying tn = some (.int kn)) (he : Ty P e [.int .u8 0] 1 1)
   (hx : f.ev x = some v) (ho : Own w lo e 1 v m (bv xs)) (hx0 : xs ≠ []) (hy : f.ev y = some (.int k i)) (h0 : 0 < i) (hb : (m : Int) + i ≤ 140737488355328) (hl : lo ≤ w.heap.size) :
   Does P n f w (.call { callee := .builtin .append, args := #[x, y], argTypes := #[t, tn] }) ty
     (fun v' w' => Own w' lo e 1 v' (m + i.toNat) (bv (xs ++ List.replicate i.toNat 0)) ∧ Keep (vblk v) w w' ∧ (∀ x, x ∈ vblk v' → x ∈ vblk v ∨ w.heap.size ≤ x)) := by
 obtain ⟨q, rfl⟩ := Int.eq_ofNat_of_zero_le (Int.le_of_lt h0)
 rw [Int.toNat_natCast]
 intro a ha dst pos aft g K Q hK
 obtain ⟨ti, z, hi, hz, hzc, hsz, hby⟩ := he.parts
 have hz2 : z.cells = #[.int .u8 0] := by rw [← Array.toList_inj]; simpa using hzc
 have hzl : ∀ k, (Builtin.zeroCells z.cells k).toList = bv (List.replicate k 0) := by
   intro k
   have : Builtin.zeroCells z.cells k = madeCells #[.int .u8 0] k := by rw [hz2]; simp [Builtin.zeroCells, madeCells]
   rw [this, toList_madeCells_one]
   simp [bv]
 have hcs : (bv (xs ++ List.replicate q 0)).length = (m + q) * 1 := by rw [bM, List.length_append, List.length_replicate, Nat.mul_one]; have := ho.1; rw [bM, Nat.mul_one] at this; omega
 have hm := ho.1
 rw [bM, Nat.mul_one] at hm
 have hne : bv xs ≠ [] := fun h => hx0 (List.eq_nil_of_length_eq_zero (by have := congrArg List.length h; rw [bM] at this; exact this))
 obtain ⟨gb, cap, cur, rfl, q1, q2, q3, q4, q5, q6⟩ := ho.raw hne
 rw [Nat.mul_one] at q5
 have holds : ∀ j u, (bv xs)[j]? = some u → w.cell? ((⟨gb, 0, none⟩ : Addr).add j) = some u := by
   obtain ⟨A, c, hv, _, _, _, _, h6⟩ := ho.rd
   cases hv
   exact h6 _ rfl
 have hw : IntKind.i64.wrap (q : Int) = q := by rw [IntKind.wrap_i64]; omega
 have hq0 : ¬ (q = 0) := by omega
 have hneg : ¬ ((q : Int) < 0) := by omega
 have h48i : ¬ (281474976710656 < (q : Int) * (ti.bytes : Int)) := by rw [hby]; omega
 have hns : ¬ (q * ti.size = 0) := by rw [hsz]; omega
 have h63' : ¬ (9223372036854775807 < ((m : Int) + (q : Int))) := by omega
 have hzs : (Builtin.zeroCells z.cells q).size = q := by rw [size_zeroCells, hz2]; simp
 by_cases hroom : m + q ≤ cap
 · have hst := run_storeCells_at P gb m e (Builtin.zeroCells z.cells q).toList 0 cur.toArray w q2 (by rw [Array.length_toList, hzs, List.size_toArray, q5]; omega) (by
     intro u hu
     rw [hzl] at hu
     exact iQ _ u hu)
   simp only [Nat.add_zero] at hst
   have hrun : (Builtin.append_ #[t, tn] ty #[.slice (some ⟨gb, 0, none⟩) m cap, .int k q]).run P w = .ok (.slice (some ⟨gb, 0, none⟩) (m + q) cap) (w.setRow gb (cur.take m ++ (Builtin.zeroCells z.cells q).toList ++ cur.drop (m + q)).toArray) := by
     rw [Array.length_toList, hzs] at hst
     simp [Builtin.append_, run_underlying ht, run_underlying htn, sizeOf, typeInfo, zeroValue, hi, hz, asInt, asIntOf, hw, hneg, h48i, hns, hroom, hsz, hq0, Addr.add_lit, hst]
   have hr : (execOp a.eval ⟨dst, .call { callee := .builtin .append, args := #[x, y], argTypes := #[t, tn] }, ty, pos, aft, g⟩).run P w = .ok (.value (.slice (some ⟨gb, 0, none⟩) (m + q) cap)) (w.setRow gb (cur.take m ++ (Builtin.zeroCells z.cells q).toList ++ cur.drop (m + q)).toArray) := by
     simp [execOp, resolve, invoke, builtin, ha.ev hx, ha.ev hy, hrun]
   unfold Oper.wp
   rw [hr]
   refine hK _ _ ⟨⟨hcs, .inr ⟨gb, cap, _, rfl, q1, setRow_heap w gb _ _ e _ q2, hroom, q4, ?_, ?_⟩⟩, dR _ _ _, fun x hx => .inl hx⟩
   · have hzz : (Builtin.zeroCells z.cells q).toList.length = q := by rw [Array.length_toList, hzs]
     simp only [List.size_toArray, List.length_append, List.length_take, List.length_drop, hzz, q5]; omega
   · rw [Nat.mul_one] at q6 ⊢
     rw [List.toList_toArray, q6, hzl, db, List.take_append_of_le_length (by simp only [List.length_append, bM, List.length_replicate]; omega), List.take_of_length_le (by simp only [List.length_append, bM, List.length_replicate]; omega)]
 · have h48' : ¬ (281474976710656 < Builtin.nextslicecap (m + q) cap * ti.bytes) := by have := fX (old := cap) (need := m + q) (by_ := ti.bytes) (by omega) (by rw [hby]; omega); omega
   have hfo := run_firstCells_some (P := P) w.drew ti.size m ⟨gb, 0, none⟩ m cap (bv xs) (by rw [bM, hsz, Nat.mul_one]; exact hm) (by simpa using holds)
   have hrun : (Builtin.append_ #[t, tn] ty #[.slice (some ⟨gb, 0, none⟩) m cap, .int k q]).run P w = .ok (.slice (some ⟨w.heap.size, 0, none⟩) (m + q) (grownCap w (m + q) cap e)) (w.drew.alloc (.cells ((bv xs).toArray ++ Builtin.zeroCells z.cells q ++ Builtin.zeroCells z.cells (grownCap w (m + q) cap e - (m + q))) e)) := by
     simp [Builtin.append_, run_underlying ht, run_underlying htn, sizeOf, typeInfo, zeroValue, hi, hz, asInt, asIntOf, hw, hneg, h48i, hns, hroom, hq0, h63', h48', Question.forced, hfo, newRow, grownCap]
   have hr : (execOp a.eval ⟨dst, .call { callee := .builtin .append, args := #[x, y], argTypes := #[t, tn] }, ty, pos, aft, g⟩).run P w = .ok (.value (.slice (some ⟨w.heap.size, 0, none⟩) (m + q) (grownCap w (m + q) cap e))) (w.drew.alloc (.cells ((bv xs).toArray ++ Builtin.zeroCells z.cells q ++ Builtin.zeroCells z.cells (grownCap w (m + q) cap e - (m + q))) e)) := by
     simp [execOp, resolve, invoke, builtin, ha.ev hx, ha.ev hy, hrun]
   unfold Oper.wp
   rw [hr]
   have hge := grownCap_ge w (m + q) cap e
   refine hK _ _ ⟨⟨hcs, .inr ⟨w.heap.size, _, _, rfl, hl, eN w.drew e _, hge, grownCap_le_maxLen w _ _ e (eK (by omega)), ?_, ?_⟩⟩, ((cj w).trans (ce _ _)).weak, fun x hx => by simp only [vblk, List.mem_singleton] at hx; subst hx; exact .inr (Nat.le_refl _)⟩
   · rw [Array.size_append, Array.size_append, List.size_toArray, bM, hzs, size_zeroCells, hz2]; simp; omega
   · rw [Array.toList_append, Array.toList_append, hzl, hzl, db, List.toList_toArray, Nat.mul_one, List.take_append_of_le_length (by simp only [List.length_append, bM, List.length_replicate]; omega), List.take_of_length_le (by simp only [List.length_append, bM, List.length_replicate]; omega)]
theorem rd_full {A : Option Addr} {c : Nat} {xs : List UInt8} (h : RdB w (.slice A xs.length c) xs) : RdB w (.slice (if ((xs.length : Int)).toNat = 0 then A else A.map (·.add (0 * 1))) ((xs.length : Int)).toNat ((xs.length : Int)).toNat) xs := by
 obtain ⟨A', c', hv, h2, h3, h4, h5, h6⟩ := h
 cases hv
 rw [Int.toNat_natCast]
 refine ⟨_, _, rfl, Nat.le_refl _, by omega, h4, ?_, ?_⟩
 · intro h
   split at h
   · assumption
   · cases A with
     | none => have := h5 rfl; omega
     | some a => cases h
 · intro a ha
   split at ha
   · exact h6 a ha
   · cases A with
     | none => cases ha
     | some a0 =>
       simp only [Option.map_some, Option.some.injEq, Nat.zero_mul] at ha
       subst ha
       have hr := h6 a0 rfl
       have := hr.drop 0
       rwa [List.drop_zero] at this
end
end Go.Eng
namespace Go.Eng
open Go Go.IntWalk Go.Sha
section
variable {P : Program} {n : Nat} {f : Fr} {w : World} {ty : TypeId}
end
end Go.Eng
namespace Go.Eng
open Go Go.IntWalk Go.Sha
section
variable {P : Program} {n : Nat} {f : Fr} {w : World} {ty : TypeId}
theorem bv_set (xs : List UInt8) (j : Nat) (b : UInt8) : (bv xs).set j (.int .u8 (b.toNat : Int)) = bv (xs.set j b) := by
 unfold bv; rw [List.map_set]
theorem lx {t e : TypeId} {x y : Operand} {lo j : Nat} {v : Value} {xs : List UInt8} {zs : List Value} {by_ : Nat} {i : Int} (b : UInt8) (ht : Ty P t zs 1 by_) (hx : f.ev x = some (.pointer (some (ea v j)))) (hy : f.ev y = some (.int .u8 i)) (hi : i = (b.toNat : Int))
   (ho : Own w lo e 1 v xs.length (bv xs)) (hj : j < xs.length) :
   Does P n f w (.store t x y) ty (fun _ w' => Own w' lo e 1 v (xs.set j b).length (bv (xs.set j b)) ∧ Keep (vblk v) w w' ∧ w'.heap.size = w.heap.size) := by
 subst hi
 exact (iO ht hx hy rfl ho (by rw [bM]; exact hj)).mono fun _ w' ⟨h1, h2, h3⟩ => ⟨by rw [List.length_set, ← bv_set]; exact h1, h2, h3⟩
end
def clampB (xs : List UInt8) : List UInt8 := (xs.set 0 (xs.getD 0 0 &&& 248)).set 31 ((xs.getD 31 0 &&& 127) ||| 64)
theorem mx : ∀ x : Fin 256, bits .and .u8 (x.val : Int) 248 = (((UInt8.ofNat x.val) &&& 248).toNat : Int) := by decide +kernel
theorem j1 : ∀ x : Fin 256, bits .andNot .u8 (x.val : Int) 7 = (((UInt8.ofNat x.val) &&& 248).toNat : Int) := by decide +kernel
theorem pB : ∀ x : Fin 256, bits .or .u8 (bits .and .u8 (x.val : Int) 127) 64 = ((((UInt8.ofNat x.val) &&& 127) ||| 64).toNat : Int) := by decide +kernel
theorem mv : ∀ x : Fin 256, bits .or .u8 (bits .andNot .u8 (x.val : Int) 128) 64 = ((((UInt8.ofNat x.val) &&& 127) ||| 64).toNat : Int) := by decide +kernel
theorem u8fin (x : UInt8) : ∃ y : Fin 256, (x.toNat : Int) = (y.val : Int) ∧ UInt8.ofNat y.val = x := ⟨⟨x.toNat, x.toNat_lt⟩, rfl, by simp⟩
theorem it (x : UInt8) : bits .andNot .u8 (x.toNat : Int) 7 = ((x &&& 248).toNat : Int) ∧ bits .and .u8 (x.toNat : Int) 248 = ((x &&& 248).toNat : Int) ∧ bits .or .u8 (bits .andNot .u8 (x.toNat : Int) 128) 64 = (((x &&& 127) ||| 64).toNat : Int) ∧ bits .or .u8 (bits .and .u8 (x.toNat : Int) 127) 64 = (((x &&& 127) ||| 64).toNat : Int) := by
 obtain ⟨y, h1, h2⟩ := u8fin x
 rw [h1, ← h2]
 exact ⟨j1 y, mx y, mv y, pB y⟩
end Go.Eng
namespace Go.Eng
open Go Go.IntWalk Go.Sha
section
variable {P : Program} {n : Nat} {f : Fr} {w : World} {ty : TypeId}
end
end Go.Eng
namespace Go.Proofs.YtllmbkmghmmhfaaDoor.W
open Go Go.Eng Go.Byt
theorem pl33 : Pl Tryd.prog 33 [(0, 1), (1, 1)] := by unfold Pl; kernel_rfl
theorem pl35 : Pl Tryd.prog 35 [(0, 2), (2, 1)] := by unfold Pl; kernel_rfl
theorem jx : Pl Tryd.prog 43 [(0, 5)] := by unfold Pl; kernel_rfl
theorem jw : Pl Tryd.prog 45 [(0, 5), (5, 5), (10, 5), (15, 5)] := by unfold Pl; kernel_rfl
theorem pl82 : Pl Tryd.prog 82 [(0, 1), (1, 1), (2, 3), (5, 3), (8, 3), (11, 3)] := by unfold Pl; kernel_rfl
theorem pl94 : Pl Tryd.prog 94 [(0, 14), (14, 8)] := by unfold Pl; kernel_rfl
theorem jy : Pl Tryd.prog 103 [(0, 1), (1, 1)] := by unfold Pl; kernel_rfl
theorem fR : Ty Tryd.prog 3 ([.int .i64 0]) 1 8 := by unfold Ty; kernel_rfl
theorem cZ : Ty Tryd.prog 5 ([.int .u8 0]) 1 1 := by unfold Ty; kernel_rfl
theorem iV : Ty Tryd.prog 22 ([.slice none 0 0]) 1 24 := by unfold Ty; kernel_rfl
theorem ty33 : Ty Tryd.prog 33 ([.slice none 0 0, .slice none 0 0]) 2 48 := by unfold Ty; kernel_rfl
theorem er : Ty Tryd.prog 35 ([.slice none 0 0, .slice none 0 0, .slice none 0 0]) 3 72 := by unfold Ty; kernel_rfl
theorem aY : Ty Tryd.prog 39 ([.int .u64 0]) 1 8 := by unfold Ty; kernel_rfl
theorem ah : Ty Tryd.prog 41 ([.int .u64 0, .int .u64 0, .int .u64 0, .int .u64 0, .int .u64 0]) 5 40 := by unfold Ty; kernel_rfl
theorem aj : Ty Tryd.prog 43 ([.int .u64 0, .int .u64 0, .int .u64 0, .int .u64 0, .int .u64 0]) 5 40 := by unfold Ty; kernel_rfl
theorem bA : Ty Tryd.prog 45 (List.replicate 20 (.int .u64 0)) 20 160 := by unfold Ty; kernel_rfl
theorem dD : Ty Tryd.prog 60 (List.replicate 9 (.int .u64 0)) 9 72 := by unfold Ty; kernel_rfl
theorem ty77 : Ty Tryd.prog 77 (List.replicate 320 (.int .u64 0)) 320 2560 := by unfold Ty; kernel_rfl
theorem gP : Ty Tryd.prog 80 ([.int .i64 0, .int .i64 0, .int .i64 0]) 3 24 := by unfold Ty; kernel_rfl
theorem eO : Ty Tryd.prog 82 (List.replicate 14 (.int .i64 0)) 14 112 := by unfold Ty; kernel_rfl
theorem gd : Ty Tryd.prog 91 ([.int .u64 0, .int .u64 0, .int .u64 0, .int .u64 0]) 4 32 := by unfold Ty; kernel_rfl
theorem dI : Ty Tryd.prog 92 ([.int .u64 0, .int .u64 0, .int .u64 0, .int .u64 0, .int .u64 0, .int .u64 0, .int .u64 0, .int .u64 0]) 8 64 := by unfold Ty; kernel_rfl
theorem jA : Ty Tryd.prog 94 ([.int .i64 0, .int .i64 0, .int .i64 0, .int .i64 0, .int .i64 0, .int .i64 0, .int .i64 0, .int .i64 0, .int .i64 0, .int .i64 0, .int .i64 0, .int .i64 0, .int .i64 0, .int .i64 0, .int .u64 0, .int .u64 0, .int .u64 0, .int .u64 0, .int .u64 0, .int .u64 0, .int .u64 0, .int .u64 0]) 22 176 := by unfold Ty; kernel_rfl
theorem cg : Ty Tryd.prog 103 ([.int .u64 0, .int .u64 0]) 2 16 := by unfold Ty; kernel_rfl
theorem lU : Ty Tryd.prog 105 (List.replicate 10 (.int .u64 0)) 10 80 := by unfold Ty; kernel_rfl
theorem ty108 : Ty Tryd.prog 108 (List.replicate 80 (.int .u64 0)) 80 640 := by unfold Ty; kernel_rfl
theorem ty114 : Ty Tryd.prog 114 (List.replicate 32 (.int .u8 0)) 32 32 := by unfold Ty; kernel_rfl
theorem gQ : scB Tryd.prog 3 = true := by kernel_rfl
theorem j4 : scB Tryd.prog 5 = true := by kernel_rfl
theorem kg : scB Tryd.prog 22 = true := by kernel_rfl
theorem ai : scB Tryd.prog 39 = true := by kernel_rfl
theorem ag35 : agB Tryd.prog 35 = true := by kernel_rfl
theorem ay : agB Tryd.prog 41 = true := by kernel_rfl
theorem bG : agB Tryd.prog 43 = true := by kernel_rfl
theorem cq : agB Tryd.prog 45 = true := by kernel_rfl
theorem iS : agB Tryd.prog 60 = true := by kernel_rfl
theorem ag80 : agB Tryd.prog 80 = true := by kernel_rfl
theorem ag82 : agB Tryd.prog 82 = true := by kernel_rfl
theorem ag91 : agB Tryd.prog 91 = true := by kernel_rfl
theorem ag92 : agB Tryd.prog 92 = true := by kernel_rfl
theorem ag94 : agB Tryd.prog 94 = true := by kernel_rfl
theorem iT : agB Tryd.prog 103 = true := by kernel_rfl
theorem ag105 : agB Tryd.prog 105 = true := by kernel_rfl
theorem ag114 : agB Tryd.prog 114 = true := by kernel_rfl
abbrev OwnB (w : World) (lo : Nat) (v : Value) (xs : List UInt8) : Prop := Own w lo 5 1 v xs.length (bv xs)
theorem mixed : Tryd.prog.follows .mixedOrders = true := by kernel_rfl
end Go.Proofs.YtllmbkmghmmhfaaDoor.W
namespace Go.Eng
open Go Go.IntWalk Go.Op
section
variable {P : Program} (w : World)
theorem ki (l : List Nat) (f : Nat → Sem Bool) (b : Nat → Bool) (h : ∀ i, i ∈ l → (f i).run P w = .ok (b i) w) : (do
     for i in l do
       if !(← f i) then return false
     pure true : Sem Bool).run P w = .ok (l.all b) w := by
 induction l with
 | nil => simp
 | cons i l ih =>
   have h0 := h i (by simp)
   have ih := ih (fun j hj => h j (by simp [hj]))
   simp only [List.forIn_cons, Sem.run_bind, h0, Result.andThen_ok, List.all_cons] at ih ⊢
   cases hb : b i <;> simp at ih ⊢
   exact ih
theorem mW {t e n s d : Nat} (ht : P.underlying t = some (.array n e)) (hsz : ∀ w, (sizeOf e).run P w = .ok s w) (xs ys : Array Value) (b : Nat → Bool) (h : ∀ i, i < n → (do equalIn d e (← part e xs (i * s)) (← part e ys (i * s)) : Sem Bool).run P w = .ok (b i) w) :
    (equalIn (d + 1) t (.agg xs) (.agg ys)).run P w = .ok ((List.range n).all b) w := by
  have := ki (P := P) w (List.range' 0 n) (fun i => do equalIn d e (← part e xs (i * s)) (← part e ys (i * s))) b (fun i hi => h i (by simpa using (List.mem_range'_1.1 hi).2))
  rw [equalIn]
  simp only [Sem.run_bind, run_underlying ht, Result.andThen_ok, hsz, Std.Legacy.Range.forIn_eq_forIn_range', Std.Legacy.Range.size, Nat.sub_zero, Nat.add_sub_cancel, Nat.div_one, List.range_eq_range'] at this ⊢
  simp only [bind_assoc] at this
  exact this
theorem jo {t off s b : Nat} {zs : List Value} {xs : Array Value} (ha : agB P t = true) (hs : Ty P t zs s b) : (part t xs off).run P w = .ok (.agg (xs.extract off (off + s))) w := by
 unfold part
 simp [eS ha, hs.sizeOf]
theorem lu (d : Nat) (xs ys : Array Value) : (eqFields d xs ys []).run P w = .ok true w := by simp [eqFields]
theorem ej {d : Nat} {xs ys : Array Value} {f : Field} {fs : List Field} {b1 b2 : Bool} {zs : List Value} {s by_ : Nat} (hn : (f.name != "_") = true) (ha : agB P f.type = true) (hs : Ty P f.type zs s by_)
   (h1 : (equalIn d f.type (.agg (xs.extract f.offset (f.offset + s))) (.agg (ys.extract f.offset (f.offset + s)))).run P w = .ok b1 w) (h2 : (eqFields d xs ys fs).run P w = .ok b2 w) : (eqFields d xs ys (f :: fs)).run P w = .ok (b1 && b2) w := by
 have hn' : f.name ≠ "_" := by simpa using hn
 unfold eqFields
 rw [if_pos hn']
 simp only [Sem.run_bind, jo w ha hs, Result.andThen_ok, h1]
 cases b1
 · simp
 · simp [h2]
theorem jn {t : TypeId} {k : IntKind} {off : Nat} {v : Value} {xs : Array Value} (he : P.underlying t = some (.int k)) (hx : xs[off]? = some v) : (part t xs off).run P w = .ok v w := by
 unfold part isAgg
 simp [run_underlying he, hx]
theorem n9 {t e : TypeId} {n d : Nat} {k : IntKind} {zs : List Value} {b : Nat} (ht : P.underlying t = some (.array n e)) (he : P.underlying e = some (.int k)) (hs : Ty P e zs 1 b) (f g : Nat → Int) :
   (equalIn (d + 2) t (.agg (iv k n f).toArray) (.agg (iv k n g).toArray)).run P w = .ok ((List.range n).all fun i => f i == g i) w := by
 refine mW (s := 1) w ht (fun w => hs.sizeOf w) _ _ _ (fun i hi => ?_)
 rw [Nat.mul_one]
 have h1 : ∀ f : Nat → Int, (part e (iv k n f).toArray i).run P w = .ok (.int k (f i)) w := fun f => jn w he (by rw [List.getElem?_toArray]; exact bO hi)
 simp only [Sem.run_bind, h1, Result.andThen_ok]
 exact run_equalIn_int w d e k k _ _ he
theorem jp {t : TypeId} {d : Nat} {fs : Array Field} {xs ys : Array Value} {b : Bool} (ht : P.underlying t = some (.struct fs)) (hp : P.stoodInHeld t = false) (h : (eqFields d xs ys fs.toList).run P w = .ok b w) : (equalIn (d + 1) t (.agg xs) (.agg ys)).run P w = .ok b w := by
 have hf : P.fieldsOf t = fs := by unfold Program.fieldsOf; rw [ht]
 rw [run_equalIn_struct w d t xs ys (by rw [hf]; exact ht) hp, hf]
 exact h
end
variable {P : Program} {n : Nat} {f : Fr} {w : World} {ty : TypeId}
theorem oU {t u : TypeId} {x y : Operand} {xs ys : Array Value} {b : Bool} (hg : P.eqGuardType P.depth t = false) (hx : f.ev x = some (.agg xs)) (hy : f.ev y = some (.agg ys))
   (h : (equalIn 10000 t (.agg xs) (.agg ys)).run P w = .ok b w) : Gives P n f w (.binOp .eql t x y u) ty (.bool b) w :=
 br hx hy (fun x y => run_eqGuard_agg w _ _ _ _ _ _ hg) (by rw [run_eql_struct, h]; rfl)
theorem g_max {x y : Operand} {k k' : IntKind} {a b : Int} {ts : Array TypeId} (hx : f.ev x = some (.int k a)) (hy : f.ev y = some (.int k' b)) : Gives P n f w (.call { callee := .builtin .max, args := #[x, y], argTypes := ts }) ty (.int k (if b > a then b else a)) w := by
 intro c hc dst pos aft g
 simp [execOp, resolve, invoke, builtin, hc.ev hx, hc.ev hy, run_max_int2]
end Go.Eng
namespace Go.Proofs.YtllmbkmghmmhfaaDoor.W
open Go Go.Eng Go.Byt
theorem jY {xs ys : List UInt8} (h : (xs.length : Int) ≠ ys.length) : decide (xs = ys) = false := decide_eq_false (fun e => h (by rw [e]))
theorem lE {xs ys : List UInt8} {i : Int} (h : gb xs i ≠ gb ys i) : decide (xs = ys) = false := decide_eq_false (fun e => h (by rw [e]))
theorem jZ {xs ys : List UInt8} {i : Int} (hl : ¬ (xs.length : Int) ≠ ys.length) (h : ∀ j : Nat, (j : Int) < i → xs.getD j 0 = ys.getD j 0) (hi : ¬ i < xs.length) : decide (xs = ys) = true := by
 refine decide_eq_true (List.ext_getElem (by omega) (fun j h1 h2 => ?_))
 have := h j (by omega)
 rw [List.getD_eq_getElem?_getD, List.getD_eq_getElem?_getD, List.getElem?_eq_getElem h1, List.getElem?_eq_getElem h2] at this
 exact this
theorem oc {xs ys : List UInt8} {i : Int} (h0 : 0 ≤ i) (h : ∀ j : Nat, (j : Int) < i → xs.getD j 0 = ys.getD j 0) (he : ¬ gb xs i ≠ gb ys i) : ∀ j : Nat, (j : Int) < i + 1 → xs.getD j 0 = ys.getD j 0 := by
 intro j hj
 by_cases hji : (j : Int) < i
 · exact h j hji
 · have e : i.toNat = j := by omega
   have he := Decidable.of_not_not he
   unfold gb at he; rw [e] at he
   exact UInt8.toNat_inj.1 (by omega)
theorem ir (u v : Value) (xs ys : List UInt8) (w : World) (hu : RdB w u xs) (hv : RdB w v ys) : Rets Tryd.prog 36 [u, v] w (fun r w' => r = .bool (decide (xs = ys)) ∧ Keep [] w w') := by
  have hB : Keep [] w w := Keep.refl _ _
  have hle := hu.le
  refine a7 Tryd.func36 rfl (by decide) Tryd.ntmps36 rfl (fun fin _ hfin => aS (aR (oga rfl rfl (aT (aS (aS (aR (ogm rfl rfl ?_))))))))
  refine aU (bp aB rfl (by first | assumption | exact Own.rd (by assumption) | exact Rd.pK (by assumption) hB | exact Own.rd (Own.pK (by assumption) hB))) rfl (ogm rfl rfl (aU (bp aB rfl (by first | assumption | exact Own.rd (by assumption) | exact Rd.pK (by assumption) hB | exact Own.rd (Own.pK (by assumption) hB))) rfl (aU (dU rfl rfl) rfl (aT (bo rfl (fun hc1 => ?_) (fun hc1 => ?_))))))
  · -- yes
    refine aS (aR (oga rfl rfl (aT (bD hfin Tryd.results36 rfl ?_))))
    first
    | (exact ⟨by rw [jY hc1], hB⟩)
    | (exact ⟨by rw [lE hc1], hB⟩)
    | (exact ⟨by rw [jZ hc1 hall hc1], hB⟩)
  · -- no
    refine a8 (aS (aS (aR (ogm rfl rfl (aU (bp aB rfl (by first | assumption | exact Own.rd (by assumption) | exact Rd.pK (by assumption) hB | exact Own.rd (Own.pK (by assumption) hB))) rfl (ogm rfl rfl (aT (a5 ?_))))))))
    refine bi (Γ := Int) (fun i => [(0, u), (1, v), (12, .int .i64 (xs.length : Int)), (13, .int .i64 i)]) (fun i W => 0 ≤ i ∧ i ≤ xs.length ∧ (∀ j : Nat, (j : Int) < i → xs.getD j 0 = ys.getD j 0) ∧ Keep [] w W) (fun i => (xs.length - i).toNat) 0 ⟨rfl, rfl, rfl, rfl, trivial⟩ (⟨by decide, by omega, fun j h => by omega, hB⟩) ?_
    rintro i w1 ⟨hi0, hi1, hall, hB⟩
    refine aW [(0, u), (1, v), (12, .int .i64 (xs.length : Int)), (13, .int .i64 i)] ⟨rfl, rfl, rfl, rfl, trivial⟩ (aS (aR (aU (bW rfl rfl) rfl (aT (aS (bo rfl (fun hc2 => ?_) (fun hc2 => ?_)))))))
    · -- yes
      refine a8 (aS (a5 (aS (aR (ogm rfl rfl (oga rfl rfl (aT (aS ?_))))))))
      refine dm mixed (by decide +kernel) (fun w2 k1 => ?_)
      have z_k1 := k1.size
      replace hB := hB.trans k1
      refine ac (ax rfl) rfl (ac (ax rfl) rfl (ac (dV aB cZ rfl (by first | assumption | exact Own.rd (by assumption) | exact Rd.pK (by assumption) hB | exact Own.rd (Own.pK (by assumption) hB)) rfl (by omega)) rfl (ac (d7 j4 rfl (by first | assumption | exact Own.rd (by assumption) | exact Rd.pK (by assumption) hB | exact Own.rd (Own.pK (by assumption) hB)) (by omega)) rfl (ac (ax rfl) rfl (ac (ax rfl) rfl (ac (dV aB cZ rfl (by first | assumption | exact Own.rd (by assumption) | exact Rd.pK (by assumption) hB | exact Own.rd (Own.pK (by assumption) hB)) rfl (by omega)) rfl (ac (d7 j4 rfl (by first | assumption | exact Own.rd (by assumption) | exact Rd.pK (by assumption) hB | exact Own.rd (Own.pK (by assumption) hB)) (by omega)) rfl (ac (dU rfl rfl) rfl ?_))))))))
      refine cB (aT (bo rfl (fun hc3 => ?_) (fun hc3 => ?_)))
      · -- yes
        refine aS (aR (oga rfl rfl (aT (bD hfin Tryd.results36 rfl ?_))))
        first
        | (exact ⟨by rw [jY hc1], hB⟩)
        | (exact ⟨by rw [lE hc3], hB⟩)
        | (exact ⟨by rw [jZ hc1 hall hc3], hB⟩)
      · -- no
        refine a8 (bg (aR (aU (cI rfl rfl (by omega)) rfl (ogm rfl rfl (aT (cA (Γ := Int) (i + 1) ⟨rfl, rfl, rfl, rfl, trivial⟩ (by (try dsimp only); omega) (⟨by omega, by omega, oc hi0 hall hc3, hB⟩)))))))
    · -- no
      refine bE rfl (aS (aR (oga rfl rfl (aT (bD hfin Tryd.results36 rfl ?_)))))
      first
      | (exact ⟨by rw [jY hc1], hB⟩)
      | (exact ⟨by rw [lE hc2], hB⟩)
      | (exact ⟨by rw [jZ hc1 hall hc2], hB⟩)
theorem is (v : Value) (xs : List UInt8) (w : World) (hv : RdB w v xs) (hx : xs.length ≤ 140737488355328) : Rets Tryd.prog 34 [v] w (fun u w' => OwnB w' w.heap.size u xs ∧ Keep [] w w' ∧ isNil u = isNil v) := by
  have hB : Keep [] w w := Keep.refl _ _
  have hn0 : isNil v = true → xs = [] := by
    obtain ⟨A, c, rfl, h1, h2, h3, h4, h5⟩ := hv
    intro h
    cases A with
    | none => have := h4 rfl; exact List.eq_nil_of_length_eq_zero (by omega)
    | some a => cases h
  refine a7 Tryd.func34 rfl (by decide) Tryd.ntmps34 rfl (fun fin _ hfin => aS (aR (oga rfl rfl (aT (aS (aS (aR (ogm rfl rfl ?_))))))))
  refine aU (g_nilS aB rfl (by first | assumption | exact Own.rd (by assumption) | exact Rd.pK (by assumption) hB | exact Own.rd (Own.pK (by assumption) hB))) rfl (aT (dH rfl (fun hc1 => ?_) (fun hc1 => ?_)))
  · -- yes
    have hd1 := hc1
    try (simp only [Bool.and_eq_true, Bool.or_eq_true, decide_eq_true_eq, Bool.and_eq_false_iff, Bool.or_eq_false_iff, decide_eq_false_iff_not, Bool.not_eq_true', Bool.not_eq_false', Bool.not_eq_true, Bool.not_eq_false, ne_eq, Decidable.not_not] at hd1)
    refine aS (aR (oga rfl rfl (aT (bD hfin Tryd.results34 rfl ?_))))
    first
    | (have h0 : xs = [] := hn0 (by assumption)
       subst h0; exact ⟨dX _ _ _ _, hB, (by show true = _; exact Eq.symm (by assumption))⟩)
    | exact ⟨by simpa using o2, hB, by simp [*]⟩
  · -- no
    have hd2 := hc1
    try (simp only [Bool.and_eq_true, Bool.or_eq_true, decide_eq_true_eq, Bool.and_eq_false_iff, Bool.or_eq_false_iff, decide_eq_false_iff_not, Bool.not_eq_true', Bool.not_eq_false', Bool.not_eq_true, Bool.not_eq_false, ne_eq, Decidable.not_not] at hd2)
    refine a8 (aS (aR (a9 (gS (m := 0) (xs := []) (vs := []) aB cZ (by decide) rfl rfl rfl (by first | (simp; done) | (intro v hv; rw [List.mem_singleton] at hv; subst hv; rfl)) (by decide)) rfl ?_)))
    rintro v1 w1 ⟨o1, nn1, lb1, k1, z1⟩
    have z_k1 := k1.size
    replace hB := hB.trans k1
    replace o1 : Own w1 _ _ 1 v1 0 (bv []) := o1
    refine ogm rfl rfl (a9 (eW  aB cZ rfl (by first | assumption | exact dX _ _ _ _) rfl (by first | assumption | exact Own.rd (by assumption) | exact Rd.pK (by assumption) hB | exact Own.rd (Own.pK (by assumption) hB)) (by first | omega | (simp only [bM, List.length_append, Int.toNat_natCast] at *; omega)) (by have := hB.size; omega)) rfl ?_)
    rintro v2 w2 ⟨o2, k2, lb2, nn2⟩
    have z_k2 := k2.size
    replace hB := hB.new k2 (fun x hx => .inl (o1.blk x hx).1)
    refine oga rfl rfl (aT (bD hfin Tryd.results34 rfl ?_))
    first
    | (have h0 : xs = [] := hn0 (by assumption)
       subst h0; exact ⟨dX _ _ _ _, hB, (by show true = _; exact Eq.symm (by assumption))⟩)
    | exact ⟨by simpa using o2, hB, by simp [*]⟩
theorem oL (n : Int) (w : World) (hn : 0 ≤ n ∧ n ≤ 140737488355328) : Rets Tryd.prog 51 [.slice none 0 0, .int .i64 n] w (fun u w' => OwnB w' w.heap.size u [] ∧ Keep [] w w') := by
 have hB : Keep [] w w := Keep.refl _ _
 refine a7 Tryd.func51 rfl (by decide) Tryd.ntmps51 rfl (fun fin _ hfin => aS (aR (oga rfl rfl (aT (aS (aS (aR (ogm rfl rfl (aU (bW rfl rfl) rfl (aT (cU rfl (by omega) (a8 (aS (aS (aR (ogm rfl rfl (ogm rfl rfl (aU (aq (j := 0) (g_cap aB rfl (Rd.nil w 1)) rfl) rfl (ogm rfl rfl (aU (bp aB rfl (Rd.nil w 1)) rfl (aU (eG rfl rfl (by omega)) rfl (aU (eG rfl rfl (by omega)) rfl (oga rfl rfl (aT (aS (aR (ogm rfl rfl (aU (lA rfl rfl) rfl ?_))))))))))))))))))))))))))))
 refine aT (bo rfl (fun hc1 => ?_) (fun hc1 => ?_))
 ·
  refine aR (ogm rfl rfl (ogm rfl rfl (aU (aq (j := 0) (g_cap aB rfl (Rd.nil w 1)) rfl) rfl (aU (v := .slice none 0 0) (i0 (l := 0) (h := 0) aB cZ rfl (Rd.nil w 1) (.inl ⟨rfl, rfl⟩) (.inr ⟨_, _, rfl, rfl⟩) ⟨by decide, by decide, by decide⟩) rfl (ogm rfl rfl (a9 (d_appZ aB aO cZ rfl rfl (by omega) (by constructor <;> omega)) rfl ?_))))))
  rintro v1 w1 ⟨o1, nn1, lb1, k1⟩
  replace hB := hB.trans k1
  refine ogm rfl rfl (aU (bp aB rfl (Rd.nil _ 1)) rfl ?_)
  have o2 := o1.cut0 (h := 0) (Nat.zero_le _)
  refine aU (i0 aB cZ rfl o1.rd (.inl ⟨rfl, rfl⟩) (.inr ⟨_, _, rfl, rfl⟩) (by omega)) rfl (oga rfl rfl (aT (aS (aR (ogm rfl rfl (oga rfl rfl (aT (bD hfin Tryd.results51 rfl ?_))))))))
  first
  | exact ⟨o2, hB⟩
  | exact ⟨dX _ _ _ _, hB⟩
 ·
  refine a8 (aS (aR (ogm rfl rfl (oga rfl rfl (aT (bD hfin Tryd.results51 rfl ?_))))))
  first
  | exact ⟨o2, hB⟩
  | exact ⟨dX _ _ _ _, hB⟩
theorem lJ (v : Value) (us : List Value) (ls : List (List UInt8)) (w : World) (hv : Rd w 1 v us.length us) (hl : RdL w us ls) (hsum : ls.flatten.length ≤ 140737488355328) : Rets Tryd.prog 23 [v] w (fun u w' => OwnB w' w.heap.size u ls.flatten ∧ Keep [] w w') := by
 have hB : Keep [] w w := Keep.refl _ _
 have hll := hl.1
 have hle := hv.le
 refine a7 Tryd.func23 rfl (by decide) Tryd.ntmps23 rfl (fun fin _ hfin => aS (aR (oga rfl rfl (aT (aS (aR (oga rfl rfl (aT (aS (aS (aR (ogm rfl rfl (aU (bp aP rfl (by first | assumption | exact Own.rd ‹_› | exact Rd.pK ‹_› hB | exact Own.rd (Own.pK ‹_› hB))) rfl (ogm rfl rfl (aT (a5 (bi (Γ := Int) (fun i => [(0, v), (3, .int .i64 ((ls.take i.toNat).flatten.length : Int)), (9, v), (10, .int .i64 (us.length : Int)), (11, .int .i64 i)]) (fun i W => 0 ≤ i ∧ i ≤ ls.length ∧ w = W) (fun i => (ls.length - i).toNat) 0 ⟨rfl, rfl, rfl, rfl, rfl, trivial⟩ (⟨by decide, by omega, rfl⟩) ?_)))))))))))))))))
 rintro i w1 ⟨hi0, hi1, rfl⟩
 refine aW [(0, v), (3, .int .i64 ((ls.take i.toNat).flatten.length : Int)), (9, v), (10, .int .i64 (us.length : Int)), (11, .int .i64 i)] ⟨rfl, rfl, rfl, rfl, rfl, trivial⟩ ?_
 have hft := eb ls i.toNat
 refine aS (aR (aU (bW rfl rfl) rfl (aT (aS (bo rfl (fun hc1 => ?_) (fun hc1 => ?_))))))
 ·
  refine a8 (aS (a5 (aS (aR (aU (dV aP iV rfl (by first | assumption | exact Own.rd ‹_› | exact Rd.pK ‹_› hB | exact Own.rd (Own.pK ‹_› hB)) rfl (by omega)) rfl ?_)))))
  obtain ⟨u, x, hx, hu, ru⟩ := hl.get (i := i.toNat) (by omega)
  have e1 : ls.take (i + 1).toNat = ls.take i.toNat ++ [x] := by rw [show (i + 1).toNat = i.toNat + 1 from by omega]; exact dp hx
  have hsz := eF hx
  refine aU (oR kg rfl (by first | assumption | exact Own.rd ‹_› | exact Rd.pK ‹_› hB | exact Own.rd (Own.pK ‹_› hB)) (by rw [Nat.mul_one]; exact hu)) rfl (oga rfl rfl (aT (aS (aR (ogm rfl rfl (ogm rfl rfl (aU (bp aB rfl (by first | assumption | exact Own.rd ‹_› | exact Rd.pK ‹_› hB | exact Own.rd (Own.pK ‹_› hB))) rfl (aU (cI rfl rfl (by omega)) rfl (oga rfl rfl (aT (aS (aR (ogm rfl rfl (aU (bW rfl rfl) rfl (aT (cU rfl (by omega) (a8 (bg (aR (aU (cI rfl rfl (by omega)) rfl (ogm rfl rfl (aT (cA (Γ := Int) (i + 1) ⟨rfl, congrArg (fun z : Int => some (Value.int .i64 z)) (show ((ls.take i.toNat).flatten.length : Int) + (x.length : Int) = _ from by rw [e1, List.flatten_append, List.length_append]; simp), rfl, rfl, rfl, trivial⟩ (by (try dsimp only); omega) (⟨by omega, by omega, rfl⟩))))))))))))))))))))))))
 ·
  refine bE rfl (aS (aR (ogm rfl rfl (a9 (aV (vs := [_, _]) rfl (oL _ _ (by constructor <;> omega))) rfl ?_))))
  rintro v1 w2 ⟨o1, k1⟩
  have z_k1 := k1.size
  replace hB := hB.trans k1
  refine oga rfl rfl (aT (aS (aS (aR (ogm rfl rfl (aU (bp aP rfl (by first | assumption | exact Own.rd ‹_› | exact Rd.pK ‹_› hB | exact Own.rd (Own.pK ‹_› hB))) rfl (ogm rfl rfl (aT (a5 (bi (Γ := Int × Value) (fun ⟨j, o⟩ => [(6, o), (25, v), (26, .int .i64 (us.length : Int)), (27, .int .i64 j)]) (fun ⟨j, o⟩ W => 0 ≤ j ∧ j ≤ ls.length ∧ OwnB W w.heap.size o (ls.take j.toNat).flatten ∧ Keep [] w W) (fun ⟨j, o⟩ => (ls.length - j).toNat) ⟨0, v1⟩ ⟨rfl, rfl, rfl, rfl, trivial⟩ (⟨by decide, by omega, by simpa using o1, hB⟩) ?_))))))))))
  rintro ⟨j, o⟩ w3 ⟨hj0, hj1, ow, hB⟩
  refine aW [(6, o), (25, v), (26, .int .i64 (us.length : Int)), (27, .int .i64 j)] ⟨rfl, rfl, rfl, rfl, trivial⟩ (aS (aR (aU (bW rfl rfl) rfl (aT (aS (bo rfl (fun hc2 => ?_) (fun hc2 => ?_)))))))
  ·
   refine a8 (aS (a5 (aS (aR (aU (dV aP iV rfl (by first | assumption | exact Own.rd ‹_› | exact Rd.pK ‹_› hB | exact Own.rd (Own.pK ‹_› hB)) rfl (by omega)) rfl ?_)))))
   obtain ⟨u, x, hx, hu, ru⟩ := hl.get (i := j.toNat) (by omega)
   have e1 : ls.take (j + 1).toNat = ls.take j.toNat ++ [x] := by rw [show (j + 1).toNat = j.toNat + 1 from by omega]; exact dp hx
   have hsz := eF hx
   refine aU (oR kg rfl (by first | assumption | exact Own.rd ‹_› | exact Rd.pK ‹_› hB | exact Own.rd (Own.pK ‹_› hB)) (by rw [Nat.mul_one]; exact hu)) rfl (oga rfl rfl (aT (aR (ogm rfl rfl (ogm rfl rfl (a9 (eW  aB cZ rfl (by first | assumption | exact dX _ _ _ _) rfl (by first | assumption | exact Own.rd ‹_› | exact Rd.pK ‹_› hB | exact Own.rd (Own.pK ‹_› hB)) (by first | omega | (simp only [bM, List.length_append, Int.toNat_natCast] at *; omega)) (by have := hB.size; omega)) rfl ?_))))))
   rintro v2 w4 ⟨o2, k2, lb1, nn1⟩
   have z_k2 := k2.size
   replace hB := hB.new k2 (fun x hx => .inl (ow.blk x hx).1)
   refine oga rfl rfl (aT (bg (aR (aU (cI rfl rfl (by omega)) rfl (ogm rfl rfl (aT (cA (Γ := Int × Value) ⟨j + 1, v2⟩ ⟨rfl, rfl, rfl, rfl, trivial⟩ (by (try dsimp only); omega) (⟨by omega, by omega, by rw [e1, List.flatten_append]; simpa [OwnB] using o2, hB⟩))))))))
  ·
   refine bE rfl (aS (aR (ogm rfl rfl (oga rfl rfl (aT (bD hfin Tryd.results23 rfl ?_))))))
   have hj : j.toNat = ls.length := by omega
   rw [hj, List.take_length] at ow
   exact ⟨ow, hB⟩
end Go.Proofs.YtllmbkmghmmhfaaDoor.W
namespace Go.Eng
open Go Go.ChangeShapes Go.WideShapes Go.ChangeAt Go.RowKit
section
variable {H : Type} {enc : TypeId × Value → H} {P : Program} {w : World} {base : Nat} {held : Bool}
def Small (P : Program) (t : TypeId) (d : DataW H) : Prop := ∀ n ∈ d.weights P t, n ≤ reachBytes
theorem i5 {ts : List TypeId} {ds : List (DataW H)} (h : (DataW.weightsEach P ts ds).all (· ≤ reachBytes) = true) {j : Nat} {t : TypeId} {d : DataW H} (ht : ts[j]? = some t) (hd : ds[j]? = some d) : Small P t d := by
  intro n hn
  have := List.all_eq_true.1 h n (DataW.weights_mem_each ht hd n hn)
  simpa using this
theorem mS {t e : TypeId} {elems spare : List (DataW H)} (hu : P.underlying t = some (.slice e)) (h : Small P t (.slice elems spare)) : (elems.length + spare.length) * P.bytesOf e ≤ reachBytes := by
 refine h _ ?_
 simp [DataW.weights, hu]
theorem gK {t e : TypeId} {fuel : Nat} {cs : List Value} {y : DataW H × List MemPlace} (ht : P.underlying t = some (.slice e)) (he : P.underlying e = some (.int .u8)) (hc : P.cellsOf e = 1) (hb : P.bytesOf e = 1)
   (h : DataW.trod enc P w base (fun _ => true) held fuel t cs = some y) (hs : Small P t y.1) : ∃ v xs, cs = [v] ∧ RdB w v xs ∧ xs.length ≤ 140737488351232 := by
 rcases open_ints ht he hc h with ⟨rfl, rfl⟩ | ⟨a, len, cap, zs, rfl, _, hl, hm, hz, hy, hcell, hwz⟩
 · exact ⟨_, [], rfl, Rd.nil _ _, by decide⟩
 · simp only [if_true] at hz
   have hr : reachBytes ≤ 140737488351232 := by decide
   rw [hy] at hs
   have h9 := mS ht hs
   rw [hb] at h9
   simp only [lits, List.length_map, List.length_take, List.length_drop] at h9
   have hbv : bv ((zs.take len).map fun n => UInt8.ofNat n.toNat) = (zs.take len).map fun n => Value.int .u8 n := by
     simp only [bv, List.map_map]
     apply List.map_congr_left
     intro n hn
     have h1 := hwz n (List.mem_of_mem_take hn)
     have e1 : IntKind.u8.min = 0 := by decide
     have e2 : IntKind.u8.max = 255 := by decide
     simp only [Lit.wf, e1, e2, Bool.and_eq_true, decide_eq_true_eq] at h1
     simp only [Function.comp, UInt8.toNat_ofNat']
     congr 1; omega
   refine ⟨_, (zs.take len).map fun n => UInt8.ofNat n.toNat, rfl, ⟨some a, cap, ?_, ?_, hm, by simp, (fun h => by cases h), ?_⟩, by simp only [List.length_map, List.length_take]; omega⟩
   · congr 1; simp only [List.length_map, List.length_take]; omega
   · simp only [List.length_map, List.length_take]; omega
   · intro a' ha
     cases ha
     rw [hbv]
     intro j u hj
     rw [List.getElem?_map, List.getElem?_take] at hj
     by_cases hjl : j < len
     · rw [if_pos hjl] at hj
       have hjz : j < zs.length := by omega
       rw [List.getElem?_eq_getElem hjz] at hj
       simp only [Option.map_some, Option.some.injEq] at hj
       rw [hcell j hjz, ← hj, List.getD_eq_getElem?_getD, List.getElem?_eq_getElem hjz]; rfl
     · rw [if_neg hjl] at hj; cases hj
theorem eP {t : TypeId} {v : Value} {d : DataW H} {ps : List MemPlace} {sp : Nat → Bool} (h : DataW.Trod enc P w base sp held t v d ps) : ∀ x ∈ ps, x.block < w.heap.size := by
 obtain ⟨m, hm⟩ := h; exact DataW.trod_lt m _ _ _ hm
end
end Go.Eng
namespace Go.Proofs.YtllmbkmghmmhfaaDoor.W
open Go Go.Eng Go.Byt
theorem mw (v : Value) (xs : List UInt8) (w : World) (hv : RdB w v xs) (hx : xs.length = 32) : Rets Tryd.prog 21 [v] w (fun r w' => ∃ u, r = .tuple #[u, .int .i64 0] ∧ OwnB w' w.heap.size u (clampB xs) ∧ Keep [] w w') := by
 have hB : Keep [] w w := Keep.refl _ _
 refine a7 Tryd.func21 rfl (by decide) Tryd.ntmps21 rfl (fun fin _ hfin => aS (aR (oga rfl rfl (oga rfl rfl (aT (aS (aS (aR (ogm rfl rfl (aU (bp aB rfl (by first | assumption | exact Own.rd ‹_› | exact Rd.pK ‹_› hB | exact Own.rd (Own.pK ‹_› hB))) rfl (aU (dU rfl rfl) rfl (aT (cU rfl (by omega) (a8 (aS (aR (ogm rfl rfl (a9 (aV (vs := [_]) rfl (is _ xs _ (by first | assumption | exact Own.rd ‹_› | exact Rd.pK ‹_› hB | exact Own.rd (Own.pK ‹_› hB)) (by omega))) rfl ?_))))))))))))))))))
 rintro v1 w1 ⟨o1, k1, nn1⟩
 have gl_o1 := hB.size
 replace hB := hB.trans k1
 refine oga rfl rfl ?_
 replace o1 := o1.lo gl_o1
 obtain ⟨ys, hys⟩ : ∃ ys, ys = xs := ⟨_, rfl⟩
 replace o1 : OwnB w1 w.heap.size v1 ys := by rw [hys]; exact o1
 have hyl : ys.length = 32 := by rw [hys]; exact hx
 refine aT (aS (aR (ogm rfl rfl (aU (dV aB cZ rfl o1.rd rfl (by rw [hyl]; decide)) rfl (aU (cM (v' := .int .u8 ((ys.getD 0 0).toNat : Int)) (d7 j4 rfl o1.rd (by rw [hyl]; decide)) rfl) rfl (aU (iD rfl rfl) rfl (aU (dV aB cZ rfl o1.rd rfl (by rw [hyl]; decide)) rfl (a6 (lx (j := 0) (ys.getD 0 0 &&& 248) cZ rfl rfl (it _).1 o1 (by rw [hyl]; decide)) ?_))))))))
 rintro _ w2 ⟨o2, k2, _⟩
 replace hB := hB.new k2 (fun x hx => .inl (o1.blk x hx).1)
 have hyl1 : (ys.set 0 (ys.getD 0 0 &&& 248)).length = 32 := by rw [List.length_set]; exact hyl
 refine aT (aW [(4, _)] ⟨rfl, trivial⟩ (aS (aR (ogm rfl rfl (ogm rfl rfl (aU (dV aB cZ rfl o2.rd rfl (by rw [hyl1]; decide)) rfl (aU (cM (v' := .int .u8 (((ys.set 0 (ys.getD 0 0 &&& 248)).getD 31 0).toNat : Int)) (d7 j4 rfl o2.rd (by rw [hyl1]; decide)) rfl) rfl (aU (iD rfl rfl) rfl (aU (du rfl rfl) rfl (aU (dV aB cZ rfl o2.rd rfl (by rw [hyl1]; decide)) rfl (a6 (lx (j := 31) (((ys.set 0 (ys.getD 0 0 &&& 248)).getD 31 0 &&& 127) ||| 64) cZ rfl rfl (it _).2.2.1 o2 (by rw [hyl1]; decide)) ?_)))))))))))
 rintro _ w3 ⟨o3, k3, _⟩
 replace hB := hB.new k3 (fun x hx => .inl (o2.blk x hx).1)
 have hyl2 : ((ys.set 0 (ys.getD 0 0 &&& 248)).set 31 (((ys.set 0 (ys.getD 0 0 &&& 248)).getD 31 0 &&& 127) ||| 64)).length = 32 := by rw [List.length_set]; exact hyl1
 refine aT (aS (aR (ogm rfl rfl (oga rfl rfl (oga rfl rfl (aT (dk hfin Tryd.results21 rfl rfl ?_)))))))
 have h31 : ∀ b : UInt8, (ys.set 0 b).getD 31 0 = ys.getD 31 0 := fun b => by rw [List.getD_eq_getElem?_getD, List.getD_eq_getElem?_getD, List.getElem?_set_ne (by decide)]
 have e : ((ys.set 0 (ys.getD 0 0 &&& 248)).set 31 (((ys.set 0 (ys.getD 0 0 &&& 248)).getD 31 0 &&& 127) ||| 64)) = clampB xs := by rw [h31, hys]; rfl
 exact ⟨_, rfl, by rw [← e]; exact o3, hB⟩
end Go.Proofs.YtllmbkmghmmhfaaDoor.W
namespace Go.Nt
def Pr (n : Nat) : Prop := 1 < n ∧ ∀ m, m ∣ n → m = 1 ∨ m = n
theorem Pr.coprime {p a : Nat} (hp : Pr p) (h : ¬ p ∣ a) : Nat.Coprime p a := by
 rcases hp.2 (Nat.gcd p a) (Nat.gcd_dvd_left p a) with h1 | h1
 · exact h1
 · exact absurd (h1 ▸ Nat.gcd_dvd_right p a) h
theorem Pr.dvd_mul {p a b : Nat} (hp : Pr p) (h : p ∣ a * b) : p ∣ a ∨ p ∣ b := by
 by_cases ha : p ∣ a
 · exact .inl ha
 · exact .inr ((hp.coprime ha).dvd_of_dvd_mul_left h)
def ch : Nat → Nat → Nat
 | _, 0 => 1
 | 0, _ + 1 => 0
 | n + 1, k + 1 => ch n k + ch n (k + 1)
theorem fk (n : Nat) : ch n 0 = 1 := by cases n <;> rfl
theorem eo (n k : Nat) : ch (n + 1) (k + 1) = ch n k + ch n (k + 1) := rfl
theorem eM : ∀ (n k : Nat), n < k → ch n k = 0
 | 0, k + 1, _ => rfl
 | n + 1, k + 1, h => by rw [eo, eM n k (by omega), eM n (k + 1) (by omega)]
theorem ly : ∀ (n : Nat), ch n n = 1
 | 0 => rfl
 | n + 1 => by rw [eo, ly n, eM n (n + 1) (by omega)]
theorem ep : ∀ (n k : Nat), (k + 1) * ch (n + 1) (k + 1) = (n + 1) * ch n k
 | 0, 0 => rfl
 | 0, k + 1 => by rw [eo, eM 0 (k + 1) (by omega), eM 0 (k + 2) (by omega)]; simp
 | n + 1, 0 => by
   have h := ep n 0
   rw [eo (n + 1) 0, fk]
   rw [fk] at h
   omega
 | n + 1, k + 1 => by
   have h1 := ep n k
   have h2 := ep n (k + 1)
   rw [eo (n + 1) (k + 1), Nat.mul_add, h2, Nat.succ_mul (k + 1), h1]
   have e : ch (n + 1) (k + 1) = ch n k + ch n (k + 1) := rfl
   have e2 : (n + 1 + 1) * ch (n + 1) (k + 1) = (n + 1) * ch (n + 1) (k + 1) + ch (n + 1) (k + 1) := Nat.succ_mul _ _
   rw [e2]
   have e3 : (n + 1) * ch (n + 1) (k + 1) = (n + 1) * ch n k + (n + 1) * ch n (k + 1) := by rw [e, Nat.mul_add]
   omega
theorem Pr.dvd_ch {p k : Nat} (hp : Pr p) (h0 : 0 < k) (h1 : k < p) : p ∣ ch p k := by
 obtain ⟨n, rfl⟩ : ∃ n, p = n + 1 := ⟨p - 1, by have := hp.1; omega⟩
 obtain ⟨j, rfl⟩ : ∃ j, k = j + 1 := ⟨k - 1, by omega⟩
 have h := ep n j
 have hd : n + 1 ∣ (j + 1) * ch (n + 1) (j + 1) := h ▸ Nat.dvd_mul_right _ _
 rcases hp.dvd_mul hd with h2 | h2
 · exact absurd (Nat.le_of_dvd (by omega) h2) (by omega)
 · exact h2
def sm (f : Nat → Nat) : Nat → Nat
 | 0 => 0
 | m + 1 => sm f m + f m
theorem n0 (f g : Nat → Nat) : ∀ m, sm (fun k => f k + g k) m = sm f m + sm g m
  | 0 => rfl
  | m + 1 => by simp only [sm, n0 f g m]; omega
theorem nY (c : Nat) (f : Nat → Nat) : ∀ m, sm (fun k => c * f k) m = c * sm f m
  | 0 => rfl
  | m + 1 => by simp only [sm, nY c f m, Nat.mul_add]
theorem fT (f : Nat → Nat) : ∀ m, sm f (m + 1) = f 0 + sm (fun k => f (k + 1)) m
  | 0 => by simp [sm]
  | m + 1 => by rw [sm, fT f m]; simp only [sm]; omega
theorem jg {f g : Nat → Nat} : ∀ {m : Nat}, (∀ k, k < m → f k = g k) → sm f m = sm g m
 | 0, _ => rfl
 | m + 1, h => by simp only [sm]; rw [jg (m := m) (fun k hk => h k (by omega)), h m (by omega)]
theorem nZ {p : Nat} {f : Nat → Nat} : ∀ {m : Nat}, (∀ k, k < m → p ∣ f k) → p ∣ sm f m
 | 0, _ => Nat.dvd_zero p
 | m + 1, h => Nat.dvd_add (nZ (m := m) (fun k hk => h k (by omega))) (h m (by omega))
theorem binom (x : Nat) : ∀ n, (x + 1) ^ n = sm (fun k => ch n k * x ^ k) (n + 1)
  | 0 => by simp [sm, ch]
  | n + 1 => by
    have ih := binom x n
    have h0 : sm (fun k => ch n (k + 1) * x ^ (k + 1)) (n + 1) + 1 = sm (fun k => ch n k * x ^ k) (n + 1) := by
      have h1 := fT (fun k => ch n k * x ^ k) (n + 1)
      have h2 : sm (fun k => ch n k * x ^ k) (n + 1 + 1) = sm (fun k => ch n k * x ^ k) (n + 1) := by
        show sm (fun k => ch n k * x ^ k) (n + 1) + ch n (n + 1) * x ^ (n + 1) = _
        rw [eM n (n + 1) (by omega)]; omega
      rw [h2] at h1
      rw [h1, fk]; simp; omega
    rw [fT, fk]
    have h3 : sm (fun k => ch (n + 1) (k + 1) * x ^ (k + 1)) (n + 1) = x * sm (fun k => ch n k * x ^ k) (n + 1) + sm (fun k => ch n (k + 1) * x ^ (k + 1)) (n + 1) := by
      rw [← nY, ← n0]
      refine jg fun k _ => ?_
      rw [eo, Nat.add_mul]
      congr 1
      rw [Nat.pow_succ, Nat.mul_comm x, Nat.mul_assoc]
    rw [h3, Nat.pow_succ, Nat.mul_add, ih, Nat.mul_comm _ x, Nat.pow_zero]
    omega
theorem Pr.binom {p : Nat} (hp : Pr p) (x : Nat) : ∃ m, (x + 1) ^ p = x ^ p + 1 + p * m := by
 obtain ⟨n, rfl⟩ : ∃ n, p = n + 1 := ⟨p - 1, by have := hp.1; omega⟩
 have h := Nt.binom x (n + 1)
 have hs : sm (fun k => ch (n + 1) k * x ^ k) (n + 1 + 1) = sm (fun k => ch (n + 1) k * x ^ k) (n + 1) + ch (n + 1) (n + 1) * x ^ (n + 1) := rfl
 rw [hs, ly, fT, fk] at h
 have hd : n + 1 ∣ sm (fun k => ch (n + 1) (k + 1) * x ^ (k + 1)) n := nZ fun k hk => Nat.dvd_trans (hp.dvd_ch (by omega) (by omega)) (Nat.dvd_mul_right _ _)
 obtain ⟨m, hm⟩ := hd
 refine ⟨m, ?_⟩
 rw [h, hm]; simp; omega
theorem Pr.fermat {p : Nat} (hp : Pr p) : ∀ x, x ^ p % p = x % p
 | 0 => by rw [Nat.zero_pow (by have := hp.1; omega)]
 | x + 1 => by
   obtain ⟨m, hm⟩ := hp.binom x
   rw [hm, Nat.add_mul_mod_self_left, Nat.add_mod, hp.fermat x, ← Nat.add_mod]
theorem Pr.fermat1 {p x : Nat} (hp : Pr p) (h : ¬ p ∣ x) : x ^ (p - 1) % p = 1 := by
 have h1 := hp.1
 have hx : x ≠ 0 := fun e => h (e ▸ Nat.dvd_zero p)
 have hpos : 0 < x ^ (p - 1) := Nat.pow_pos (by omega)
 have e : x ^ p = x * x ^ (p - 1) := by
   obtain ⟨n, rfl⟩ : ∃ n, p = n + 1 := ⟨p - 1, by omega⟩
   rw [Nat.pow_succ, Nat.mul_comm]; rfl
 have hf := hp.fermat x
 have hle : x ≤ x * x ^ (p - 1) := Nat.le_mul_of_pos_right x hpos
 have hd : p ∣ x * (x ^ (p - 1) - 1) := by
   rw [Nat.mul_sub, Nat.mul_one]
   rw [e] at hf
   exact Nat.dvd_of_mod_eq_zero (Nat.sub_mod_eq_zero_of_mod_eq hf)
 rcases hp.dvd_mul hd with h2 | h2
 · exact absurd h2 h
 · obtain ⟨k, hk⟩ := h2
   have : x ^ (p - 1) = 1 + p * k := by omega
   rw [this, Nat.add_mul_mod_self_left, Nat.mod_eq_of_lt h1]
theorem gL {r g : Nat} (hr : 1 < r) (h : g % r = 1) (k : Nat) : g ^ k % r = 1 := by
 rw [Nat.pow_mod, h, Nat.one_pow, Nat.mod_eq_of_lt hr]
theorem pow_gcd {r g : Nat} (hr : 1 < r) : ∀ (m k : Nat), g ^ m % r = 1 → g ^ k % r = 1 → g ^ (Nat.gcd m k) % r = 1 := by
 intro m k
 induction m, k using Nat.gcd.induction with
 | H0 n => intro _ h; rwa [Nat.gcd_zero_left]
 | H1 m n hm ih =>
   intro h1 h2
   rw [Nat.gcd_rec]
   refine ih ?_ h1
   have e : g ^ n = (g ^ m) ^ (n / m) * g ^ (n % m) := by rw [← Nat.pow_mul, ← Nat.pow_add, Nat.div_add_mod]
   rw [e, Nat.mul_mod, gL hr h1, Nat.one_mul, Nat.mod_mod] at h2
   exact h2
def pw (n : Nat) : Nat → Nat → Nat → Nat
 | 0, _, _ => 1 % n
 | f + 1, a, e => bif Nat.beq e 0 then 1 % n else bif Nat.beq (e % 2) 1 then a * pw n f (a * a % n) (e / 2) % n else pw n f (a * a % n) (e / 2)
theorem l7 (n : Nat) : ∀ (f a e : Nat), e < 2 ^ f → pw n f a e = a ^ e % n
 | 0, a, e, h => by have : e = 0 := by simpa using h
                    subst this; rfl
 | f + 1, a, e, h => by
   unfold pw
   have hlt : e / 2 < 2 ^ f := by rw [Nat.pow_succ] at h; omega
   have ih := l7 n f (a * a % n) (e / 2) hlt
   have e1 : (a * a % n) ^ (e / 2) % n = a ^ (2 * (e / 2)) % n := by rw [← Nat.pow_mod, ← Nat.pow_two, ← Nat.pow_mul]
   by_cases h0 : e = 0
   · subst h0; rfl
   · have hb : Nat.beq e 0 = false := by cases hc : Nat.beq e 0 with
       | false => rfl
       | true => exact absurd (Nat.eq_of_beq_eq_true hc) h0
     rw [hb, cond_false, ih, e1]
     by_cases h1 : e % 2 = 1
     · have hb1 : Nat.beq (e % 2) 1 = true := by rw [h1]; rfl
       rw [hb1, cond_true, Nat.mul_mod, Nat.mod_mod, ← Nat.mul_mod]
       have : e = 2 * (e / 2) + 1 := by omega
       conv => rhs; rw [this, Nat.pow_succ, Nat.mul_comm]
     · have hb1 : Nat.beq (e % 2) 1 = false := by
         cases hc : Nat.beq (e % 2) 1 with
         | false => rfl
         | true => exact absurd (Nat.eq_of_beq_eq_true hc) h1
       rw [hb1, cond_false]
       have : 2 * (e / 2) = e := by omega
       rw [this]
theorem io : ∀ (n : Nat), 1 < n → ∃ r, Pr r ∧ r ∣ n := by
 intro n
 induction n using Nat.strongRecOn with
 | _ n ih =>
   intro h
   by_cases hp : Pr n
   · exact ⟨n, hp, Nat.dvd_refl n⟩
   · have : ∃ m, m ∣ n ∧ m ≠ 1 ∧ m ≠ n := by
       apply Classical.byContradiction
       intro hn
       refine hp ⟨h, fun m hm => ?_⟩
       apply Classical.byContradiction
       intro hc
       exact hn ⟨m, hm, fun e => hc (.inl e), fun e => hc (.inr e)⟩
     obtain ⟨m, hm, h1, h2⟩ := this
     have hle := Nat.le_of_dvd (by omega) hm
     have h0 : m ≠ 0 := fun e => by subst e; have := Nat.eq_zero_of_zero_dvd hm; omega
     obtain ⟨r, hr, hd⟩ := ih m (by omega) (by omega)
     exact ⟨r, hr, Nat.dvd_trans hd hm⟩
theorem ed {n : Nat} (h : 1 < n) (hn : ¬ Pr n) : ∃ r, Pr r ∧ r ∣ n ∧ r * r ≤ n := by
 have : ∃ m, m ∣ n ∧ m ≠ 1 ∧ m ≠ n := by
   apply Classical.byContradiction
   intro hc
   refine hn ⟨h, fun m hm => ?_⟩
   apply Classical.byContradiction
   intro hd
   exact hc ⟨m, hm, fun e => hd (.inl e), fun e => hd (.inr e)⟩
 obtain ⟨m, ⟨k, hk⟩, h1, h2⟩ := this
 have hm0 : m ≠ 0 := fun e => by subst e; omega
 have hk0 : k ≠ 0 := fun e => by subst e; omega
 have hk1 : k ≠ 1 := fun e => by subst e; omega
 rcases Nat.le_total m k with hmk | hmk
 · obtain ⟨r, hr, hd⟩ := io m (by omega)
   have hle := Nat.le_of_dvd (by omega) hd
   refine ⟨r, hr, Nat.dvd_trans hd ⟨k, hk⟩, ?_⟩
   rw [hk]; exact Nat.mul_le_mul hle (Nat.le_trans hle hmk)
 · obtain ⟨r, hr, hd⟩ := io k (by omega)
   have hle := Nat.le_of_dvd (by omega) hd
   refine ⟨r, hr, Nat.dvd_trans hd ⟨m, by rw [hk, Nat.mul_comm]⟩, ?_⟩
   rw [hk]; exact Nat.mul_le_mul (Nat.le_trans hle hmk) hle
def tells (n q a : Nat) : Bool := Nat.beq (q * ((n - 1) / q)) (n - 1) && Nat.beq (pw n 256 a (n - 1)) 1 && Nat.beq (Nat.gcd (pw n 256 a ((n - 1) / q) + (n - 1)) n) 1
theorem fw {n q a r : Nat} (hn : 1 < n) (hb : n < 2 ^ 256) (hq : Pr q) (ht : tells n q a = true) (hr : Pr r) (hd : r ∣ n) : q ∣ r - 1 := by
 simp only [tells, Bool.and_eq_true] at ht
 obtain ⟨⟨t1, t2⟩, t3⟩ := ht
 have t1 := Nat.eq_of_beq_eq_true t1
 have t2 := Nat.eq_of_beq_eq_true t2
 have t3 := Nat.eq_of_beq_eq_true t3
 have hr1 := hr.1
 rw [l7 n 256 a (n - 1) (by omega)] at t2
 rw [l7 n 256 a ((n - 1) / q) (Nat.lt_of_le_of_lt (Nat.div_le_self _ _) (by omega))] at t3
 have ha1 : a ^ (n - 1) % r = 1 := by
   rw [← Nat.mod_mod_of_dvd _ hd, t2, Nat.mod_eq_of_lt hr1]
 have hra : ¬ r ∣ a := by
   intro h
   obtain ⟨k, hk⟩ := h
   obtain ⟨m, hm⟩ : ∃ m, n - 1 = m + 1 := ⟨n - 2, by omega⟩
   rw [hm, Nat.pow_succ, hk, ← Nat.mul_assoc, Nat.mul_comm _ r, Nat.mul_assoc, Nat.mul_mod_right] at ha1
   omega
 have hf := hr.fermat1 hra
 rcases hq.2 (Nat.gcd q (r - 1)) (Nat.gcd_dvd_left _ _) with h1 | h1
 · exfalso
   have g1 : (a ^ ((n - 1) / q)) ^ q % r = 1 := by rw [← Nat.pow_mul, Nat.mul_comm, t1]; exact ha1
   have g2 : (a ^ ((n - 1) / q)) ^ (r - 1) % r = 1 := by rw [← Nat.pow_mul, Nat.mul_comm, Nat.pow_mul]; exact gL hr1 hf _
   have g3 := pow_gcd hr1 q (r - 1) g1 g2
   rw [h1, Nat.pow_one] at g3
   have g4 : r ∣ a ^ ((n - 1) / q) % n + (n - 1) := by
     have e1 : (a ^ ((n - 1) / q) % n) % r = 1 := by rw [Nat.mod_mod_of_dvd _ hd]; exact g3
     obtain ⟨k, hk⟩ := hd
     have hk0 : k ≠ 0 := fun e => by subst e; omega
     have e2 : a ^ ((n - 1) / q) % n = 1 + r * ((a ^ ((n - 1) / q) % n) / r) := by
       have := Nat.mod_add_div (a ^ ((n - 1) / q) % n) r
       omega
     rw [e2]
     have hpos : 0 < r * k := by rw [← hk]; omega
     exact ⟨(a ^ ((n - 1) / q) % n) / r + k, by rw [Nat.mul_add]; omega⟩
   have g5 := Nat.dvd_gcd g4 hd
   rw [t3] at g5
   have := Nat.le_of_dvd (by decide) g5
   omega
 · rw [← h1]; exact Nat.gcd_dvd_right _ _
theorem fE {n q a : Nat} (hn : 1 < n) (hb : n < 2 ^ 256) (hq : Pr q) (ht : tells n q a = true) (hs : n < q * q) : Pr n := by
 apply Classical.byContradiction
 intro hc
 obtain ⟨r, hr, hd, hle⟩ := ed hn hc
 have h1 := fw hn hb hq ht hr hd
 have h2 := Nat.le_of_dvd (by have := hr.1; omega) h1
 have : q * q ≤ r * r := Nat.mul_le_mul (by omega) (by omega)
 omega
theorem gq {n q a q' a' : Nat} (hn : 1 < n) (hb : n < 2 ^ 256) (hq : Pr q) (ht : tells n q a = true) (hq' : Pr q') (ht' : tells n q' a' = true) (hne : q' < q) (hs : n < (q * q') * (q * q')) : Pr n := by
 apply Classical.byContradiction
 intro hc
 obtain ⟨r, hr, hd, hle⟩ := ed hn hc
 have h1 := fw hn hb hq ht hr hd
 have h1' := fw hn hb hq' ht' hr hd
 have hco : Nat.Coprime q q' := hq.coprime (fun h => by
   have := Nat.le_of_dvd (by have := hq'.1; omega) h
   omega)
 have h3 : q * q' ∣ r - 1 := hco.mul_dvd_of_dvd_of_dvd h1 h1'
 have h2 := Nat.le_of_dvd (by have := hr.1; omega) h3
 have : (q * q') * (q * q') ≤ r * r := Nat.mul_le_mul (by omega) (by omega)
 omega
def noneDiv (n : Nat) : Nat → Nat → Bool
 | 0, _ => true
 | f + 1, k => !Nat.beq (n % k) 0 && noneDiv n f (k + 1)
theorem gM {n : Nat} : ∀ (f k m : Nat), noneDiv n f k = true → k ≤ m → m < k + f → n % m ≠ 0
 | 0, k, m, _, h1, h2 => by omega
 | f + 1, k, m, h, h1, h2 => by
   simp only [noneDiv, Bool.and_eq_true, Bool.not_eq_true'] at h
   by_cases hm : m = k
   · subst hm
     intro e
     rw [e] at h
     exact absurd h.1 (by decide)
   · exact gM f (k + 1) m h.2 (by omega) (by omega)
theorem fF {n : Nat} (f : Nat) (hn : 1 < n) (h : noneDiv n f 2 = true) (hs : n < (f + 2) * (f + 2)) : Pr n := by
 apply Classical.byContradiction
 intro hc
 obtain ⟨r, hr, hd, hle⟩ := ed hn hc
 have hr1 := hr.1
 rcases Nat.lt_or_ge r (2 + f) with h1 | h1
 · exact gM f 2 r h (by omega) h1 (Nat.mod_eq_zero_of_dvd hd)
 · have : (f + 2) * (f + 2) ≤ r * r := Nat.mul_le_mul (by omega) (by omega)
   omega
set_option maxRecDepth 100000
theorem mc : Pr 8574133 := fF 2928 (by decide) (by decide +kernel) (by decide)
theorem pr127 : Pr 127 := fF 10 (by decide) (by decide +kernel) (by decide)
theorem ni : Pr 430751 := fF 656 (by decide) (by decide +kernel) (by decide)
theorem pr4153 : Pr 4153 := fF 64 (by decide) (by decide +kernel) (by decide)
theorem jH : Pr 2773320623 := fF 52662 (by decide) (by decide +kernel) (by decide)
theorem iY : Pr 72106336199 := fE (q := 2773320623) (a := 2) (by decide) (by decide) jH (by decide +kernel) (by decide)
theorem fG : Pr 1919519569386763 := gq (q := 8574133) (a := 2) (q' := 127) (a' := 2) (by decide) (by decide) mc (by decide +kernel) pr127 (by decide +kernel) (by decide) (by decide)
theorem es : Pr 31757755568855353 := gq (q := 430751) (a := 2) (q' := 4153) (a' := 2) (by decide) (by decide) ni (by decide +kernel) pr4153 (by decide +kernel) (by decide) (by decide)
theorem prB : Pr 75445702479781427272750846543864801 := gq (q := 1919519569386763) (a := 2) (q' := 72106336199) (a' := 2) (by decide) (by decide) fG (by decide +kernel) iY (by decide +kernel) (by decide) (by decide)
theorem prA : Pr 74058212732561358302231226437062788676166966415465897661863160754340907 := gq (q := 75445702479781427272750846543864801) (a := 2) (q' := 31757755568855353) (a' := 2) (by decide) (by decide) prB (by decide +kernel) es (by decide +kernel) (by decide) (by decide)
theorem prP : Pr 57896044618658097711785492504343953926634992332820282019728792003956564819949 := fE (q := 74058212732561358302231226437062788676166966415465897661863160754340907) (a := 2) (by decide) (by decide) prA (by decide +kernel) (by decide)
end Go.Nt
namespace Go.Ed
open Go.Nt
abbrev P : Nat := 57896044618658097711785492504343953926634992332820282019728792003956564819949
instance : NeZero P := ⟨by decide⟩
abbrev Fp := Fin P
theorem prime : Pr P := prP
theorem gT (a b : Fp) : (a * b).val = a.val * b.val % P := rfl
theorem lS (a b : Fp) : (a + b).val = (a.val + b.val) % P := rfl
theorem dT {a b : Fp} (h : a * b = 0) : a = 0 ∨ b = 0 := by
 have h1 : a.val * b.val % P = 0 := by rw [← gT, h]; rfl
 rcases prime.dvd_mul (Nat.dvd_of_mod_eq_zero h1) with h2 | h2
 · exact .inl (Fin.ext (Nat.eq_zero_of_dvd_of_lt h2 a.isLt))
 · exact .inr (Fin.ext (Nat.eq_zero_of_dvd_of_lt h2 b.isLt))
theorem ca {a b : Fp} (ha : a ≠ 0) (hb : b ≠ 0) : a * b ≠ 0 := fun h => (dT h).elim ha hb
theorem fH {a b c : Fp} (hc : c ≠ 0) (h : a * c = b * c) : a = b := by
 have h1 : (a - b) * c = 0 := by grind -lia -linarith
 rcases dT h1 with h2 | h2
 · grind -lia -linarith
 · exact absurd h2 hc
def fpow (a : Fp) : Nat → Fp
 | 0 => 1
 | n + 1 => fpow a n * a
theorem iF (a : Fp) : ∀ n, (fpow a n).val = a.val ^ n % P
 | 0 => rfl
 | n + 1 => by rw [fpow, gT, iF a n, Nat.pow_succ, Nat.mod_mul_mod]
theorem d6 (a : Fp) (m : Nat) : ∀ n, fpow a (m + n) = fpow a m * fpow a n
 | 0 => (Fin.mul_one _).symm
 | n + 1 => by rw [← Nat.add_assoc, fpow, d6 a m n, fpow, Fin.mul_assoc]
theorem fe (a : Fp) (m : Nat) : ∀ n, fpow a (m * n) = fpow (fpow a m) n
 | 0 => rfl
 | n + 1 => by rw [Nat.mul_succ, d6, fe a m n, fpow]
theorem kB (a : Fp) : fpow a 1 = a := Fin.one_mul a
theorem fermat {a : Fp} (h : a ≠ 0) : fpow a (P - 1) = 1 := by
 apply Fin.ext
 rw [iF, prime.fermat1 (fun hd => h (Fin.ext (Nat.eq_zero_of_dvd_of_lt hd a.isLt)))]
 rfl
def inv (a : Fp) : Fp := fpow a (P - 2)
theorem cE {a : Fp} (h : a ≠ 0) : a * inv a = 1 := by
 have h1 := fermat h
 have e : P - 1 = (P - 2) + 1 := rfl
 rw [e] at h1
 rw [Fin.mul_comm]; exact h1
theorem fI {a b : Fp} (h : a * b = 1) : inv a = b := by
 have ha : a ≠ 0 := fun e => by subst e; rw [Fin.zero_mul] at h; exact absurd h (by decide)
 have := cE ha
 grind -lia -linarith
theorem jX (a : Fp) (n : Nat) (h : n < 2 ^ 256) : (fpow a n).val = pw P 256 a.val n := by rw [iF, l7 _ _ _ _ h]
def d : Fp := ⟨37095705934669439343138083508754565189542113879843219016388785533085940283555, by decide⟩
def im : Fp := ⟨19681161376707505956807079304988542015446066515923890162744021073123829784752, by decide⟩
theorem im_sq : im * im = -1 := by decide +kernel
theorem d_ne : d ≠ 0 := by decide +kernel
theorem d_half : fpow d ((P - 1) / 2) = -1 := by
 apply Fin.ext
 rw [jX _ _ (by decide)]
 decide +kernel
theorem ld (s : Fp) : s * s ≠ d := by
 intro h
 have hs : s ≠ 0 := fun e => by subst e; exact d_ne (by rw [← h, Fin.mul_zero])
 have h1 : fpow (fpow s 2) ((P - 1) / 2) = 1 := by
   rw [← fe]; exact fermat hs
 have h2 : fpow s 2 = d := by rw [← h]; show 1 * s * s = s * s; rw [Fin.one_mul]
 rw [h2, d_half] at h1
 exact absurd h1 (by decide +kernel)
theorem two_ne : (2 : Fp) ≠ 0 := by decide +kernel
def On (x y : Fp) : Prop := y * y - x * x = 1 + d * x * x * y * y
theorem far {x1 y1 x2 y2 : Fp} (h1 : On x1 y1) (h2 : On x2 y2) : (d * x1 * x2 * y1 * y2) * (d * x1 * x2 * y1 * y2) ≠ 1 := by
 intro he
 unfold On at h1 h2
 generalize hee : d * x1 * x2 * y1 * y2 = e at he
 have hi := im_sq
 have e0 : x1 * y1 ≠ 0 := fun h => by
   have : e = 0 := by grind -lia -linarith
   rw [this, Fin.zero_mul] at he; exact absurd he (by decide)
 have e2 : y2 ≠ 0 := fun h => by
   have : e = 0 := by rw [← hee, h, Fin.mul_zero]
   rw [this, Fin.zero_mul] at he; exact absurd he (by decide)
 have k1 : (im * x1 + e * y1) * (im * x1 + e * y1) = d * (x1 * y1) * (x1 * y1) * ((y2 + im * x2) * (y2 + im * x2)) := by grind -lia -linarith
 have k2 : (im * x1 - e * y1) * (im * x1 - e * y1) = d * (x1 * y1) * (x1 * y1) * ((y2 - im * x2) * (y2 - im * x2)) := by grind -lia -linarith
 have fin : ∀ u v : Fp, v ≠ 0 → u * u ≠ d * (x1 * y1) * (x1 * y1) * (v * v) := by
   intro u v hv hc
   have h3 := cE (ca e0 hv)
   refine ld (u * inv (x1 * y1 * v)) ?_
   grind -lia -linarith
 by_cases hz : y2 + im * x2 = 0
 · refine fin _ (y2 - im * x2) (fun h => ?_) k2
   have : (2 : Fp) * y2 = 0 := by grind -lia -linarith
   rcases dT this with h | h
   · exact two_ne h
   · exact e2 h
 · exact fin _ _ hz k1
theorem mr {x1 y1 x2 y2 : Fp} (h1 : On x1 y1) (h2 : On x2 y2) : 1 + d * x1 * x2 * y1 * y2 ≠ 0 := fun h => far h1 h2 (by grind -lia -linarith)
theorem lC {x1 y1 x2 y2 : Fp} (h1 : On x1 y1) (h2 : On x2 y2) : 1 - d * x1 * x2 * y1 * y2 ≠ 0 := fun h => far h1 h2 (by grind -lia -linarith)
abbrev Pt := Fp × Fp
def OnP (p : Pt) : Prop := On p.1 p.2
def padd (p q : Pt) : Pt := ((p.1 * q.2 + p.2 * q.1) * inv (1 + d * p.1 * q.1 * p.2 * q.2), (p.2 * q.2 + p.1 * q.1) * inv (1 - d * p.1 * q.1 * p.2 * q.2))
def zero : Pt := (0, 1)
def pneg (p : Pt) : Pt := (-p.1, p.2)
theorem on_zero : OnP zero := by unfold OnP On zero; decide +kernel
theorem nu {p : Pt} (h : OnP p) : OnP (pneg p) := by unfold OnP On pneg at *; grind -lia -linarith
theorem ie (p q : Pt) : padd p q = padd q p := by
 unfold padd
 have e1 : p.1 * q.2 + p.2 * q.1 = q.1 * p.2 + q.2 * p.1 := by grind -lia -linarith
 have e2 : p.2 * q.2 + p.1 * q.1 = q.2 * p.2 + q.1 * p.1 := by grind -lia -linarith
 have e3 : d * p.1 * q.1 * p.2 * q.2 = d * q.1 * p.1 * q.2 * p.2 := by grind -lia -linarith
 rw [e1, e2, e3]
theorem gy {p q : Pt} (hp : OnP p) (hq : OnP q) : OnP (padd p q) := by
 obtain ⟨x1, y1⟩ := p
 obtain ⟨x2, y2⟩ := q
 have u1 := cE (mr hp hq)
 have u2 := cE (lC hp hq)
 unfold OnP On padd at *
 simp only at *
 generalize inv (1 + d * x1 * x2 * y1 * y2) = u at *
 generalize inv (1 - d * x1 * x2 * y1 * y2) = v at *
 have key : (y1 * y2 + x1 * x2) * (y1 * y2 + x1 * x2) * ((1 + d * x1 * x2 * y1 * y2) * (1 + d * x1 * x2 * y1 * y2)) - (x1 * y2 + y1 * x2) * (x1 * y2 + y1 * x2) * ((1 - d * x1 * x2 * y1 * y2) * (1 - d * x1 * x2 * y1 * y2)) = (1 + d * x1 * x2 * y1 * y2) * (1 + d * x1 * x2 * y1 * y2) * ((1 - d * x1 * x2 * y1 * y2) * (1 - d * x1 * x2 * y1 * y2)) + d * (x1 * y2 + y1 * x2) * (x1 * y2 + y1 * x2) * (y1 * y2 + x1 * x2) * (y1 * y2 + x1 * x2) := by grind -lia -linarith
 generalize 1 + d * x1 * x2 * y1 * y2 = a at *
 generalize 1 - d * x1 * x2 * y1 * y2 = b at *
 generalize y1 * y2 + x1 * x2 = m at *
 generalize x1 * y2 + y1 * x2 = n at *
 have k2 : (m * m * (a * a) - n * n * (b * b)) * (u * u * (v * v)) = (a * a * (b * b) + d * n * n * m * m) * (u * u * (v * v)) := by rw [key]
 grind -lia -linarith
theorem bC (p : Pt) : padd zero p = p := by
 have e1 : inv (1 : Fp) = 1 := fI (Fin.one_mul 1)
 obtain ⟨x, y⟩ := p
 have e2 : 1 + d * 0 * x * 1 * y = 1 := by grind -lia -linarith
 have e3 : 1 - d * 0 * x * 1 * y = 1 := by grind -lia -linarith
 unfold padd zero
 simp only
 rw [e2, e3, e1]
 refine Prod.ext ?_ ?_
 · show (0 * y + 1 * x) * 1 = x
   grind -lia -linarith
 · show (1 * y + 0 * x) * 1 = y
   grind -lia -linarith
theorem dw (p : Pt) : padd p zero = p := by rw [ie, bC]
theorem add_neg {p : Pt} (h : OnP p) : padd p (pneg p) = zero := by
 have u2 := cE (lC h (nu h))
 obtain ⟨x, y⟩ := p
 unfold OnP On padd pneg zero at *
 simp only at *
 refine Prod.ext ?_ ?_
 · show (x * y + y * -x) * _ = 0
   grind -lia -linarith
 · show (y * y + x * -x) * _ = 1
   have e : y * y + x * -x = 1 - d * x * -x * y * y := by grind -lia -linarith
   rw [e]; exact u2
theorem assoc_x {x1 y1 x2 y2 x3 y3 d : Fp} (h1 : y1 * y1 - x1 * x1 = 1 + d * x1 * x1 * y1 * y1) (h2 : y2 * y2 - x2 * x2 = 1 + d * x2 * x2 * y2 * y2) (h3 : y3 * y3 - x3 * x3 = 1 + d * x3 * x3 * y3 * y3) :
   ((x1 * y2 + y1 * x2) * (1 - d * x1 * x2 * y1 * y2) * y3 + (y1 * y2 + x1 * x2) * (1 + d * x1 * x2 * y1 * y2) * x3) * ((1 + d * x2 * x3 * y2 * y3) * (1 - d * x2 * x3 * y2 * y3) + d * x1 * y1 * (x2 * y3 + y2 * x3) * (y2 * y3 + x2 * x3)) =
   (x1 * (y2 * y3 + x2 * x3) * (1 + d * x2 * x3 * y2 * y3) + y1 * (x2 * y3 + y2 * x3) * (1 - d * x2 * x3 * y2 * y3)) * ((1 + d * x1 * x2 * y1 * y2) * (1 - d * x1 * x2 * y1 * y2) + d * (x1 * y2 + y1 * x2) * (y1 * y2 + x1 * x2) * x3 * y3) := by
 have g1 : y1 * y1 - x1 * x1 - (1 + d * x1 * x1 * y1 * y1) = 0 := by grind -lia -linarith
 have g2 : y2 * y2 - x2 * x2 - (1 + d * x2 * x2 * y2 * y2) = 0 := by grind -lia -linarith
 have g3 : y3 * y3 - x3 * x3 - (1 + d * x3 * x3 * y3 * y3) = 0 := by grind -lia -linarith
 have key : ((x1 * y2 + y1 * x2) * (1 - d * x1 * x2 * y1 * y2) * y3 + (y1 * y2 + x1 * x2) * (1 + d * x1 * x2 * y1 * y2) * x3) * ((1 + d * x2 * x3 * y2 * y3) * (1 - d * x2 * x3 * y2 * y3) + d * x1 * y1 * (x2 * y3 + y2 * x3) * (y2 * y3 + x2 * x3)) - ((x1 * (y2 * y3 + x2 * x3) * (1 + d * x2 * x3 * y2 * y3) + y1 * (x2 * y3 + y2 * x3) * (1 - d * x2 * x3 * y2 * y3)) * ((1 + d * x1 * x2 * y1 * y2) * (1 - d * x1 * x2 * y1 * y2) + d * (x1 * y2 + y1 * x2) * (y1 * y2 + x1 * x2) * x3 * y3)) =
   (-x1*x2*x2*x2*x2*y2*y2*y2*x3*x3*y3*d*d - x1*x2*x2*x2*x2*y2*x3*x3*y3*d - x1*x2*x2*x2*y2*y2*y2*y2*x3*y3*y3*d*d - x1*x2*x2*x2*y2*y2*x3*x3*x3*d - x1*x2*x2*x2*y2*y2*x3*d + x1*x2*x2*y2*y2*y2*y3*y3*y3*d - x1*x2*x2*y2*y2*y2*y3*d + x1*x2*y2*y2*y2*y2*x3*y3*y3*d + y1*x2*x2*x2*x2*y2*y2*y2*x3*y3*y3*d*d + y1*x2*x2*x2*x2*y2*x3*y3*y3*d + y1*x2*x2*x2*y2*y2*y2*y2*x3*x3*y3*d*d + y1*x2*x2*x2*y2*y2*y3*y3*y3*d - y1*x2*x2*x2*y2*y2*y3*d - y1*x2*x2*y2*y2*y2*x3*x3*x3*d - y1*x2*x2*y2*y2*y2*x3*d - y1*x2*y2*y2*y2*y2*x3*x3*y3*d) * (y1 * y1 - x1 * x1 - (1 + d * x1 * x1 * y1 * y1)) + (x1*x1*x1*x2*x2*y2*x3*x3*y3*d + x1*x1*x1*x2*y2*y2*x3*y3*y3*d + x1*x1*x1*x2*x3*x3*x3*y3*y3*d + x1*x1*x1*x2*x3*x3*x3 - x1*x1*x1*x2*x3*y3*y3 + x1*x1*x1*x2*x3 + x1*x1*x1*y2*x3*x3*y3*y3*y3*d + x1*x1*x1*y2*x3*x3*y3 - x1*x1*x1*y2*y3*y3*y3 + x1*x1*x1*y2*y3 + x1*x1*y1*x2*x2*y2*x3*x3*x3*y3*y3*d*d - x1*x1*y1*x2*x2*y2*x3*y3*y3*d - x1*x1*y1*x2*y2*y2*x3*x3*y3*y3*y3*d*d - x1*x1*y1*x2*y2*y2*x3*x3*y3*d + x1*x1*y1*x2*x3*x3*y3*y3*y3*d + x1*x1*y1*x2*x3*x3*y3 - x1*x1*y1*x2*y3*y3*y3 + x1*x1*y1*x2*y3 + x1*x1*y1*y2*x3*x3*x3*y3*y3*d + x1*x1*y1*y2*x3*x3*x3 - x1*x1*y1*y2*x3*y3*y3 + x1*x1*y1*y2*x3 - x1*y1*y1*x2*x2*y2*x3*x3*y3*y3*y3*d*d - x1*y1*y1*x2*x2*y2*x3*x3*y3*d + x1*y1*y1*x2*y2*y2*x3*x3*x3*y3*y3*d*d - x1*y1*y1*x2*y2*y2*x3*y3*y3*d - x1*y1*y1*x2*x3*x3*x3*y3*y3*d - x1*y1*y1*x2*x3*x3*x3 + x1*y1*y1*x2*x3*y3*y3 - x1*y1*y1*x2*x3 - x1*y1*y1*y2*x3*x3*y3*y3*y3*d - x1*y1*y1*y2*x3*x3*y3 + x1*y1*y1*y2*y3*y3*y3 - x1*y1*y1*y2*y3 + x1*x2*x2*y2*x3*x3*y3*d + x1*x2*y2*y2*x3*y3*y3*d + x1*x2*x3*x3*x3*y3*y3*d + x1*x2*x3*x3*x3 - x1*x2*x3*y3*y3 + x1*x2*x3 + x1*y2*x3*x3*y3*y3*y3*d + x1*y2*x3*x3*y3 - x1*y2*y3*y3*y3 + x1*y2*y3 + y1*y1*y1*x2*x2*y2*x3*y3*y3*d + y1*y1*y1*x2*y2*y2*x3*x3*y3*d - y1*y1*y1*x2*x3*x3*y3*y3*y3*d - y1*y1*y1*x2*x3*x3*y3 + y1*y1*y1*x2*y3*y3*y3 - y1*y1*y1*x2*y3 - y1*y1*y1*y2*x3*x3*x3*y3*y3*d - y1*y1*y1*y2*x3*x3*x3 + y1*y1*y1*y2*x3*y3*y3 - y1*y1*y1*y2*x3 - y1*x2*x2*y2*x3*y3*y3*d - y1*x2*y2*y2*x3*x3*y3*d + y1*x2*x3*x3*y3*y3*y3*d + y1*x2*x3*x3*y3 - y1*x2*y3*y3*y3 + y1*x2*y3 + y1*y2*x3*x3*x3*y3*y3*d + y1*y2*x3*x3*x3 - y1*y2*x3*y3*y3 + y1*y2*x3) * (y2 * y2 - x2 * x2 - (1 + d * x2 * x2 * y2 * y2)) + (-x1*x1*x1*x2*x2*x2*x3 - x1*x1*x1*x2*x2*y2*y3 + x1*x1*x1*x2*y2*y2*x3 - x1*x1*x1*x2*x3 + x1*x1*x1*y2*y2*y2*y3 - x1*x1*x1*y2*y3 - x1*x1*y1*x2*x2*x2*y3 - x1*x1*y1*x2*x2*y2*x3*d - x1*x1*y1*x2*x2*y2*x3 + x1*x1*y1*x2*y2*y2*y3*d + x1*x1*y1*x2*y2*y2*y3 - x1*x1*y1*x2*y3 + x1*x1*y1*y2*y2*y2*x3 - x1*x1*y1*y2*x3 + x1*y1*y1*x2*x2*x2*x3 + x1*y1*y1*x2*x2*y2*y3*d + x1*y1*y1*x2*x2*y2*y3 - x1*y1*y1*x2*y2*y2*x3*d - x1*y1*y1*x2*y2*y2*x3 + x1*y1*y1*x2*x3 - x1*y1*y1*y2*y2*y2*y3 + x1*y1*y1*y2*y3 - x1*x2*x2*x2*x3 - x1*x2*x2*y2*y3 + x1*x2*y2*y2*x3 - x1*x2*x3 + x1*y2*y2*y2*y3 - x1*y2*y3 + y1*y1*y1*x2*x2*x2*y3 + y1*y1*y1*x2*x2*y2*x3 - y1*y1*y1*x2*y2*y2*y3 + y1*y1*y1*x2*y3 - y1*y1*y1*y2*y2*y2*x3 + y1*y1*y1*y2*x3 - y1*x2*x2*x2*y3 - y1*x2*x2*y2*x3 + y1*x2*y2*y2*y3 - y1*x2*y3 + y1*y2*y2*y2*x3 - y1*y2*x3) * (y3 * y3 - x3 * x3 - (1 + d * x3 * x3 * y3 * y3)) := by clear h1 h2 h3 g1 g2 g3; grind -lia -linarith
 rw [g1, g2, g3] at key
 grind -lia -linarith
theorem assoc_y {x1 y1 x2 y2 x3 y3 d : Fp} (h1 : y1 * y1 - x1 * x1 = 1 + d * x1 * x1 * y1 * y1) (h2 : y2 * y2 - x2 * x2 = 1 + d * x2 * x2 * y2 * y2) (h3 : y3 * y3 - x3 * x3 = 1 + d * x3 * x3 * y3 * y3) :
   ((y1 * y2 + x1 * x2) * (1 + d * x1 * x2 * y1 * y2) * y3 + (x1 * y2 + y1 * x2) * (1 - d * x1 * x2 * y1 * y2) * x3) * ((1 + d * x2 * x3 * y2 * y3) * (1 - d * x2 * x3 * y2 * y3) - d * x1 * y1 * (x2 * y3 + y2 * x3) * (y2 * y3 + x2 * x3)) =
   (y1 * (y2 * y3 + x2 * x3) * (1 + d * x2 * x3 * y2 * y3) + x1 * (x2 * y3 + y2 * x3) * (1 - d * x2 * x3 * y2 * y3)) * ((1 + d * x1 * x2 * y1 * y2) * (1 - d * x1 * x2 * y1 * y2) - d * (x1 * y2 + y1 * x2) * (y1 * y2 + x1 * x2) * x3 * y3) := by
 have g1 : y1 * y1 - x1 * x1 - (1 + d * x1 * x1 * y1 * y1) = 0 := by grind -lia -linarith
 have g2 : y2 * y2 - x2 * x2 - (1 + d * x2 * x2 * y2 * y2) = 0 := by grind -lia -linarith
 have g3 : y3 * y3 - x3 * x3 - (1 + d * x3 * x3 * y3 * y3) = 0 := by grind -lia -linarith
 have key : ((y1 * y2 + x1 * x2) * (1 + d * x1 * x2 * y1 * y2) * y3 + (x1 * y2 + y1 * x2) * (1 - d * x1 * x2 * y1 * y2) * x3) * ((1 + d * x2 * x3 * y2 * y3) * (1 - d * x2 * x3 * y2 * y3) - d * x1 * y1 * (x2 * y3 + y2 * x3) * (y2 * y3 + x2 * x3)) - ((y1 * (y2 * y3 + x2 * x3) * (1 + d * x2 * x3 * y2 * y3) + x1 * (x2 * y3 + y2 * x3) * (1 - d * x2 * x3 * y2 * y3)) * ((1 + d * x1 * x2 * y1 * y2) * (1 - d * x1 * x2 * y1 * y2) - d * (x1 * y2 + y1 * x2) * (y1 * y2 + x1 * x2) * x3 * y3)) =
   (x1*x2*x2*x2*x2*y2*y2*y2*x3*y3*y3*d*d + x1*x2*x2*x2*x2*y2*x3*y3*y3*d + x1*x2*x2*x2*y2*y2*y2*y2*x3*x3*y3*d*d + x1*x2*x2*x2*y2*y2*y3*y3*y3*d - x1*x2*x2*x2*y2*y2*y3*d - x1*x2*x2*y2*y2*y2*x3*x3*x3*d - x1*x2*x2*y2*y2*y2*x3*d - x1*x2*y2*y2*y2*y2*x3*x3*y3*d - y1*x2*x2*x2*x2*y2*y2*y2*x3*x3*y3*d*d - y1*x2*x2*x2*x2*y2*x3*x3*y3*d - y1*x2*x2*x2*y2*y2*y2*y2*x3*y3*y3*d*d - y1*x2*x2*x2*y2*y2*x3*x3*x3*d - y1*x2*x2*x2*y2*y2*x3*d + y1*x2*x2*y2*y2*y2*y3*y3*y3*d - y1*x2*x2*y2*y2*y2*y3*d + y1*x2*y2*y2*y2*y2*x3*y3*y3*d) * (y1 * y1 - x1 * x1 - (1 + d * x1 * x1 * y1 * y1)) + (-x1*x1*x1*x2*x2*y2*x3*y3*y3*d - x1*x1*x1*x2*y2*y2*x3*x3*y3*d + x1*x1*x1*x2*x3*x3*y3*y3*y3*d + x1*x1*x1*x2*x3*x3*y3 - x1*x1*x1*x2*y3*y3*y3 + x1*x1*x1*x2*y3 + x1*x1*x1*y2*x3*x3*x3*y3*y3*d + x1*x1*x1*y2*x3*x3*x3 - x1*x1*x1*y2*x3*y3*y3 + x1*x1*x1*y2*x3 + x1*x1*y1*x2*x2*y2*x3*x3*y3*y3*y3*d*d + x1*x1*y1*x2*x2*y2*x3*x3*y3*d - x1*x1*y1*x2*y2*y2*x3*x3*x3*y3*y3*d*d + x1*x1*y1*x2*y2*y2*x3*y3*y3*d + x1*x1*y1*x2*x3*x3*x3*y3*y3*d + x1*x1*y1*x2*x3*x3*x3 - x1*x1*y1*x2*x3*y3*y3 + x1*x1*y1*x2*x3 + x1*x1*y1*y2*x3*x3*y3*y3*y3*d + x1*x1*y1*y2*x3*x3*y3 - x1*x1*y1*y2*y3*y3*y3 + x1*x1*y1*y2*y3 - x1*y1*y1*x2*x2*y2*x3*x3*x3*y3*y3*d*d + x1*y1*y1*x2*x2*y2*x3*y3*y3*d + x1*y1*y1*x2*y2*y2*x3*x3*y3*y3*y3*d*d + x1*y1*y1*x2*y2*y2*x3*x3*y3*d - x1*y1*y1*x2*x3*x3*y3*y3*y3*d - x1*y1*y1*x2*x3*x3*y3 + x1*y1*y1*x2*y3*y3*y3 - x1*y1*y1*x2*y3 - x1*y1*y1*y2*x3*x3*x3*y3*y3*d - x1*y1*y1*y2*x3*x3*x3 + x1*y1*y1*y2*x3*y3*y3 - x1*y1*y1*y2*x3 - x1*x2*x2*y2*x3*y3*y3*d - x1*x2*y2*y2*x3*x3*y3*d + x1*x2*x3*x3*y3*y3*y3*d + x1*x2*x3*x3*y3 - x1*x2*y3*y3*y3 + x1*x2*y3 + x1*y2*x3*x3*x3*y3*y3*d + x1*y2*x3*x3*x3 - x1*y2*x3*y3*y3 + x1*y2*x3 - y1*y1*y1*x2*x2*y2*x3*x3*y3*d - y1*y1*y1*x2*y2*y2*x3*y3*y3*d - y1*y1*y1*x2*x3*x3*x3*y3*y3*d - y1*y1*y1*x2*x3*x3*x3 + y1*y1*y1*x2*x3*y3*y3 - y1*y1*y1*x2*x3 - y1*y1*y1*y2*x3*x3*y3*y3*y3*d - y1*y1*y1*y2*x3*x3*y3 + y1*y1*y1*y2*y3*y3*y3 - y1*y1*y1*y2*y3 + y1*x2*x2*y2*x3*x3*y3*d + y1*x2*y2*y2*x3*y3*y3*d + y1*x2*x3*x3*x3*y3*y3*d + y1*x2*x3*x3*x3 - y1*x2*x3*y3*y3 + y1*x2*x3 + y1*y2*x3*x3*y3*y3*y3*d + y1*y2*x3*x3*y3 - y1*y2*y3*y3*y3 + y1*y2*y3) * (y2 * y2 - x2 * x2 - (1 + d * x2 * x2 * y2 * y2)) + (-x1*x1*x1*x2*x2*x2*y3 - x1*x1*x1*x2*x2*y2*x3 + x1*x1*x1*x2*y2*y2*y3 - x1*x1*x1*x2*y3 + x1*x1*x1*y2*y2*y2*x3 - x1*x1*x1*y2*x3 - x1*x1*y1*x2*x2*x2*x3 - x1*x1*y1*x2*x2*y2*y3*d - x1*x1*y1*x2*x2*y2*y3 + x1*x1*y1*x2*y2*y2*x3*d + x1*x1*y1*x2*y2*y2*x3 - x1*x1*y1*x2*x3 + x1*x1*y1*y2*y2*y2*y3 - x1*x1*y1*y2*y3 + x1*y1*y1*x2*x2*x2*y3 + x1*y1*y1*x2*x2*y2*x3*d + x1*y1*y1*x2*x2*y2*x3 - x1*y1*y1*x2*y2*y2*y3*d - x1*y1*y1*x2*y2*y2*y3 + x1*y1*y1*x2*y3 - x1*y1*y1*y2*y2*y2*x3 + x1*y1*y1*y2*x3 - x1*x2*x2*x2*y3 - x1*x2*x2*y2*x3 + x1*x2*y2*y2*y3 - x1*x2*y3 + x1*y2*y2*y2*x3 - x1*y2*x3 + y1*y1*y1*x2*x2*x2*x3 + y1*y1*y1*x2*x2*y2*y3 - y1*y1*y1*x2*y2*y2*x3 + y1*y1*y1*x2*x3 - y1*y1*y1*y2*y2*y2*y3 + y1*y1*y1*y2*y3 - y1*x2*x2*x2*x3 - y1*x2*x2*y2*y3 + y1*x2*y2*y2*x3 - y1*x2*x3 + y1*y2*y2*y2*y3 - y1*y2*y3) * (y3 * y3 - x3 * x3 - (1 + d * x3 * x3 * y3 * y3)) := by clear h1 h2 h3 g1 g2 g3; grind -lia -linarith
 rw [g1, g2, g3] at key
 grind -lia -linarith
theorem frac {a b p q : Fp} (hp : p ≠ 0) (hq : q ≠ 0) (h : a * q = b * p) : a * inv p = b * inv q := by
 have h1 := cE hp; have h2 := cE hq
 have e1 : a * inv p = a * q * (inv p * inv q) := by grind -lia -linarith
 have e2 : b * inv q = b * p * (inv p * inv q) := by grind -lia -linarith
 rw [e1, e2, h]
theorem nest {n m p q a b : Fp} (hp : p ≠ 0) (hq : q ≠ 0) (s : Fp) :
   (n * inv p * b + m * inv q * a) = (n * q * b + m * p * a) * inv (p * q) ∧ s * (n * inv p) * a * (m * inv q) * b = s * n * a * m * b * inv (p * q) := by
 have h1 := cE hp; have h2 := cE hq; have h3 := cE (ca hp hq)
 generalize inv p = u at *
 generalize inv q = v at *
 generalize inv (p * q) = w at *
 have hw : w = u * v := by
   have : w = w * ((p * u) * (q * v)) := by rw [h1, h2]; grind -lia -linarith
   grind -lia -linarith
 subst hw
 constructor <;> grind -lia -linarith
theorem nestC {n m p q a b : Fp} (hp : p ≠ 0) (hq : q ≠ 0) : a * (m * inv q) + b * (n * inv p) = (a * m * p + b * n * q) * inv (p * q) := by
 have := (nest (n := n) (m := m) (a := a) (b := b) hp hq 0).1
 generalize inv p = u at *
 generalize inv q = v at *
 generalize inv (p * q) = w at *
 clear hp hq
 grind -lia -linarith
theorem nestP {n m p q a b : Fp} (hp : p ≠ 0) (hq : q ≠ 0) (s : Fp) : s * a * (n * inv p) * b * (m * inv q) = s * a * b * n * m * inv (p * q) := by
 have := (nest (n := n) (m := m) (a := a) (b := b) hp hq s).2
 generalize inv p = u at *
 generalize inv q = v at *
 generalize inv (p * q) = w at *
 clear hp hq
 grind -lia -linarith
theorem nestS {n m p q a b : Fp} (hp : p ≠ 0) (hq : q ≠ 0) : m * inv q * a + n * inv p * b = (m * p * a + n * q * b) * inv (p * q) := by
 have := (nest (n := n) (m := m) (a := a) (b := b) hp hq 0).1
 generalize inv p = u at *
 generalize inv q = v at *
 generalize inv (p * q) = w at *
 clear hp hq
 grind -lia -linarith
theorem half {n p q e : Fp} (hp : p ≠ 0) (hq : q ≠ 0) (hn : 1 + e * inv (p * q) ≠ 0) : p * q + e ≠ 0 ∧ (n * inv (p * q)) * inv (1 + e * inv (p * q)) = n * inv (p * q + e) := by
 have h3 := cE (ca hp hq)
 have h4 := cE hn
 have e1 : p * q + e = p * q * (1 + e * inv (p * q)) := by grind -lia -linarith
 have h5 : p * q + e ≠ 0 := by rw [e1]; exact ca (ca hp hq) hn
 refine ⟨h5, ?_⟩
 have h6 : inv (p * q + e) = inv (p * q) * inv (1 + e * inv (p * q)) := fI (by
   generalize inv (1 + e * inv (p * q)) = b at *
   generalize inv (p * q) = w at *
   grind -lia -linarith)
 rw [h6]; grind -lia -linarith
theorem sw5 (a b c e g : Fp) : a * b * c * e * g = a * b * e * c * g := by grind -lia -linarith
theorem neg1 (a b : Fp) : 1 - a * b = 1 + -a * b := by grind -lia -linarith
theorem negs (a b : Fp) : a + -b = a - b := by grind -lia -linarith
theorem gt {p q r : Pt} (hp : OnP p) (hq : OnP q) (hr : OnP r) : padd (padd p q) r = padd p (padd q r) := by
 have k1 := mr hp hq; have k2 := lC hp hq; have k3 := mr hq hr; have k4 := lC hq hr
 have k5 := mr (gy hp hq) hr; have k6 := lC (gy hp hq) hr; have k7 := mr hp (gy hq hr); have k8 := lC hp (gy hq hr)
 have hx := assoc_x (d := d) hp hq hr
 have hy := assoc_y (d := d) hp hq hr
 obtain ⟨x1, y1⟩ := p
 obtain ⟨x2, y2⟩ := q
 obtain ⟨x3, y3⟩ := r
 unfold padd at *
 simp only at *
 generalize hn1 : x1 * y2 + y1 * x2 = n1 at *
 generalize hn2 : y1 * y2 + x1 * x2 = n2 at *
 generalize hm1 : x2 * y3 + y2 * x3 = m1 at *
 generalize hm2 : y2 * y3 + x2 * x3 = m2 at *
 generalize hp1 : 1 + d * x1 * x2 * y1 * y2 = p1 at *
 generalize hp2 : 1 - d * x1 * x2 * y1 * y2 = p2 at *
 generalize hq1 : 1 + d * x2 * x3 * y2 * y3 = q1 at *
 generalize hq2 : 1 - d * x2 * x3 * y2 * y3 = q2 at *
 have a1 := (nest (n := n1) (m := n2) (a := x3) (b := y3) k1 k2 d).1
 have a2 := (nest (n := n1) (m := n2) (a := x3) (b := y3) k1 k2 d).2
 have b1 : x1 * (m2 * inv q2) + y1 * (m1 * inv q1) = (x1 * m2 * q1 + y1 * m1 * q2) * inv (q1 * q2) := nestC k3 k4
 have b2 : d * x1 * (m1 * inv q1) * y1 * (m2 * inv q2) = d * x1 * y1 * m1 * m2 * inv (q1 * q2) := nestP k3 k4 d
 have a3 : n2 * inv p2 * y3 + n1 * inv p1 * x3 = (n2 * p1 * y3 + n1 * p2 * x3) * inv (p1 * p2) := nestS k1 k2
 have b3 : y1 * (m2 * inv q2) + x1 * (m1 * inv q1) = (y1 * m2 * q1 + x1 * m1 * q2) * inv (q1 * q2) := nestC k3 k4
 rw [a2] at k5 k6
 rw [b2] at k7 k8
 have c6 := neg1 (d * n1 * x3 * n2 * y3) (inv (p1 * p2))
 have c8 := neg1 (d * x1 * y1 * m1 * m2) (inv (q1 * q2))
 rw [c6] at k6
 rw [c8] at k8
 rw [a1, a2, a3, b1, b2, b3, c6, c8]
 have f5 := half (n := n1 * p2 * y3 + n2 * p1 * x3) k1 k2 k5
 have f6 := half (n := n2 * p1 * y3 + n1 * p2 * x3) k1 k2 k6
 have f7 := half (n := x1 * m2 * q1 + y1 * m1 * q2) k3 k4 k7
 have f8 := half (n := y1 * m2 * q1 + x1 * m1 * q2) k3 k4 k8
 rw [f5.2, f6.2, f7.2, f8.2]
 refine Prod.ext ?_ ?_
 · refine frac f5.1 f7.1 ?_
   rw [sw5 d n1 x3 n2 y3]; exact hx
 · refine frac f6.1 f8.1 ?_
   rw [sw5 d n1 x3 n2 y3, negs, negs]; exact hy
def pmul : Nat → Pt → Pt
 | 0, _ => zero
 | n + 1, p => padd (pmul n p) p
theorem cV {p : Pt} (h : OnP p) : ∀ n, OnP (pmul n p)
 | 0 => on_zero
 | n + 1 => gy (cV h n) h
theorem dE {p : Pt} (h : OnP p) (m : Nat) : ∀ n, pmul (m + n) p = padd (pmul m p) (pmul n p)
 | 0 => (dw _).symm
 | n + 1 => by rw [← Nat.add_assoc, pmul, dE h m n, pmul, gt (cV h m) (cV h n) h]
theorem ef {p : Pt} (h : OnP p) (m : Nat) : ∀ n, pmul (m * n) p = pmul n (pmul m p)
 | 0 => rfl
 | n + 1 => by rw [Nat.mul_succ, dE h, ef h m n, pmul]
theorem ju (p : Pt) : pmul 1 p = p := bC p
theorem ic (n : Nat) : pmul n zero = zero := by
 induction n with
 | zero => rfl
 | succ n ih => rw [pmul, ih, bC]
end Go.Ed
namespace Go.Fld
open Go Go.Eng Go.Ed
theorem fp_lt (x : Int) : (x % (P : Int)).toNat < P := by
 have h1 := Int.emod_lt_of_pos x (show (0 : Int) < (P : Int) by decide)
 have h2 := Int.emod_nonneg x (show (P : Int) ≠ 0 by decide)
 omega
def fp (x : Int) : Fp := ⟨(x % (P : Int)).toNat, fp_lt x⟩
theorem eJ (x : Int) : ((fp x).val : Int) = x % (P : Int) := by
 have h2 := Int.emod_nonneg x (show (P : Int) ≠ 0 by decide)
 show ((x % (P : Int)).toNat : Int) = _
 omega
theorem iG {a b : Fp} (h : (a.val : Int) = b.val) : a = b := Fin.ext (by omega)
theorem iH {a b : Int} (c : Int) (h : a = b + c * 57896044618658097711785492504343953926634992332820282019728792003956564819949) : fp a = fp b := by
 apply iG
 rw [eJ, eJ, h]
 exact Int.add_mul_emod_self_right _ _ _
theorem oX (a b : Int) : fp (a + b) = fp a + fp b := by
 apply iG
 rw [eJ, lS]
 rw [Int.natCast_emod, Int.natCast_add, eJ, eJ, ← Int.add_emod]
theorem fp_mul (a b : Int) : fp (a * b) = fp a * fp b := by
 apply iG
 rw [eJ, gT]
 rw [Int.natCast_emod, Int.natCast_mul, eJ, eJ, ← Int.mul_emod]
theorem fp_self (a : Fp) : fp (a.val : Int) = a := by
 apply iG
 rw [eJ]
 have := a.isLt
 exact Int.emod_eq_of_lt (by omega) (by omega)
theorem fp_sub (a b : Int) : fp (a - b) = fp a - fp b := by
 have h : fp (a - b) + fp b = fp a := by rw [← oX, Int.sub_add_cancel]
 grind -lia -linarith
theorem oW : fp 1 = 1 := by decide
theorem nJ {a : Fp} {x : Int} (h : fp x = a) (h0 : 0 ≤ x) (h1 : x < 57896044618658097711785492504343953926634992332820282019728792003956564819949) : (a.val : Int) = x := by
 subst h
 rw [eJ]; exact Int.emod_eq_of_lt h0 h1
def leI : List UInt8 → Int
 | [] => 0
 | b :: r => (b.toNat : Int) + 256 * leI r
def leB (n : Int) : Nat → List UInt8
 | 0 => []
 | k + 1 => UInt8.ofNat (n % 256).toNat :: leB (n / 256) k
@[simp] theorem dM : ∀ (n : Int) (k : Nat), (leB n k).length = k
 | _, 0 => rfl
 | n, k + 1 => by simp [leB, dM _ k]
theorem d8 : ∀ xs : List UInt8, 0 ≤ leI xs ∧ leI xs < 256 ^ xs.length
 | [] => by simp [leI]
 | b :: r => by
   have ih := d8 r
   have := b.toNat_lt
   simp only [leI, List.length_cons, Int.pow_succ]
   omega
theorem jN : ∀ xs : List UInt8, leB (leI xs) xs.length = xs
 | [] => rfl
 | b :: r => by
   have ih := jN r
   have := b.toNat_lt
   simp only [leI, List.length_cons, leB]
   have e1 : ((b.toNat : Int) + 256 * leI r) % 256 = b.toNat := by omega
   have e2 : ((b.toNat : Int) + 256 * leI r) / 256 = leI r := by omega
   rw [e1, e2, ih]
   simp
theorem fY : ∀ (k : Nat) (n : Int), 0 ≤ n → n < 256 ^ k → leI (leB n k) = n
 | 0, n, h0, h1 => by simp at h1; simp [leB, leI]; omega
 | k + 1, n, h0, h1 => by
   rw [Int.pow_succ] at h1
   simp only [leB, leI]
   rw [fY k (n / 256) (by omega) (by omega)]
   have : (UInt8.ofNat (n % 256).toNat).toNat = (n % 256).toNat := by simp; omega
   rw [this]; omega
theorem leB_inj {a b : Int} {k : Nat} (h : leB a k = leB b k) (a0 : 0 ≤ a) (a1 : a < 256 ^ k) (b0 : 0 ≤ b) (b1 : b < 256 ^ k) : a = b := by
 rw [← fY k a a0 a1, h, fY k b b0 b1]
def fpB (a : Fp) : List UInt8 := leB (a.val : Int) 32
@[simp] theorem av (a : Fp) : (fpB a).length = 32 := dM _ _
theorem lr {a b : Fp} (h : fpB a = fpB b) : a = b := by
 have h1 : a.val < 57896044618658097711785492504343953926634992332820282019728792003956564819949 := a.isLt
 have h2 : b.val < 57896044618658097711785492504343953926634992332820282019728792003956564819949 := b.isLt
 have e : (256 : Int) ^ 32 = 115792089237316195423570985008687907853269984665640564039457584007913129639936 := by decide
 exact iG (leB_inj h (by omega) (by rw [e]; omega) (by omega) (by rw [e]; omega))
theorem cf {f0 f1 f2 f3 f4 c0 c1 c2 c3 c4 h0 h1 h2 h3 h4 b0 b1 b2 b3 b4 t : Int} (e0 : c0 = f0 / 2251799813685248) (e1 : c1 = (f1 + c0) / 2251799813685248) (e2 : c2 = (f2 + c1) / 2251799813685248) (e3 : c3 = (f3 + c2) / 2251799813685248) (e4 : c4 = (f4 + c3) / 2251799813685248)
   (g0 : h0 = f0 % 2251799813685248 + 19 * c4) (g1 : h1 = (f1 + c0) % 2251799813685248) (g2 : h2 = (f2 + c1) % 2251799813685248) (g3 : h3 = (f3 + c2) % 2251799813685248) (g4 : h4 = (f4 + c3) % 2251799813685248)
   (r0 : In f0 0 b0) (r1 : In f1 0 b1) (r2 : In f2 0 b2) (r3 : In f3 0 b3) (r4 : In f4 0 b4)
   (ht : 2251799813685247 + 19 * ((b4 + (b3 + (b2 + (b1 + b0 / 2251799813685248) / 2251799813685248) / 2251799813685248) / 2251799813685248) / 2251799813685248) = t) :
   In h0 0 t ∧ In h1 0 2251799813685247 ∧ In h2 0 2251799813685247 ∧ In h3 0 2251799813685247 ∧ In h4 0 2251799813685247 := by
 unfold In at *
 omega
def dC (f : Nat → Int) : Int := f 0 + f 1 * 2251799813685248 + f 2 * 5070602400912917605986812821504 + f 3 * 11417981541647679048466287755595961091061972992 + f 4 * 25711008708143844408671393477458601640355247900524685364822016
def El (f : Nat → Int) (a : Fp) : Prop :=
 In (f 0) 0 4503599627370495 ∧ In (f 1) 0 4503599627370495 ∧ In (f 2) 0 4503599627370495 ∧ In (f 3) 0 4503599627370495 ∧ In (f 4) 0 4503599627370495 ∧ fp (dC f) = a
theorem oA (f g : Nat → Int) : dC f * dC g =
   (f 0 * g 0 + 19 * (f 1 * g 4) + 19 * (f 2 * g 3) + 19 * (f 3 * g 2) + 19 * (f 4 * g 1)) + (f 0 * g 1 + f 1 * g 0 + 19 * (f 2 * g 4) + 19 * (f 3 * g 3) + 19 * (f 4 * g 2)) * 2251799813685248 +
   (f 0 * g 2 + f 1 * g 1 + f 2 * g 0 + 19 * (f 3 * g 4) + 19 * (f 4 * g 3)) * 5070602400912917605986812821504 + (f 0 * g 3 + f 1 * g 2 + f 2 * g 1 + f 3 * g 0 + 19 * (f 4 * g 4)) * 11417981541647679048466287755595961091061972992 +
   (f 0 * g 4 + f 1 * g 3 + f 2 * g 2 + f 3 * g 1 + f 4 * g 0) * 25711008708143844408671393477458601640355247900524685364822016 +
   (f 1 * g 4 + f 2 * g 3 + f 3 * g 2 + f 4 * g 1 + (f 2 * g 4 + f 3 * g 3 + f 4 * g 2) * 2251799813685248 + (f 3 * g 4 + f 4 * g 3) * 5070602400912917605986812821504 + f 4 * g 4 * 11417981541647679048466287755595961091061972992) * 57896044618658097711785492504343953926634992332820282019728792003956564819949 := by
 unfold dC
 generalize f 0 = x0; generalize f 1 = x1; generalize f 2 = x2; generalize f 3 = x3; generalize f 4 = x4
 generalize g 0 = y0; generalize g 1 = y1; generalize g 2 = y2; generalize g 3 = y3; generalize g 4 = y4
 grind -lia -linarith
theorem mul_fp {f g h : Nat → Int} {a b : Fp} (hf : fp (dC f) = a) (hg : fp (dC g) = b) (c t0 t1 t2 t3 t4 : Int)
   (e0 : t0 = f 0 * g 0 + 19 * (f 1 * g 4) + 19 * (f 2 * g 3) + 19 * (f 3 * g 2) + 19 * (f 4 * g 1)) (e1 : t1 = f 0 * g 1 + f 1 * g 0 + 19 * (f 2 * g 4) + 19 * (f 3 * g 3) + 19 * (f 4 * g 2))
   (e2 : t2 = f 0 * g 2 + f 1 * g 1 + f 2 * g 0 + 19 * (f 3 * g 4) + 19 * (f 4 * g 3)) (e3 : t3 = f 0 * g 3 + f 1 * g 2 + f 2 * g 1 + f 3 * g 0 + 19 * (f 4 * g 4)) (e4 : t4 = f 0 * g 4 + f 1 * g 3 + f 2 * g 2 + f 3 * g 1 + f 4 * g 0)
   (hh : dC h + c * 57896044618658097711785492504343953926634992332820282019728792003956564819949 = t0 + t1 * 2251799813685248 + t2 * 5070602400912917605986812821504 + t3 * 11417981541647679048466287755595961091061972992 + t4 * 25711008708143844408671393477458601640355247900524685364822016) : fp (dC h) = a * b := by
 rw [← hf, ← hg, ← fp_mul, oA, ← e0, ← e1, ← e2, ← e3, ← e4]
 refine iH (-c - (f 1 * g 4 + f 2 * g 3 + f 3 * g 2 + f 4 * g 1 + (f 2 * g 4 + f 3 * g 3 + f 4 * g 2) * 2251799813685248 + (f 3 * g 4 + f 4 * g 3) * 5070602400912917605986812821504 + f 4 * g 4 * 11417981541647679048466287755595961091061972992)) ?_
 generalize f 1 * g 4 + f 2 * g 3 + f 3 * g 2 + f 4 * g 1 + (f 2 * g 4 + f 3 * g 3 + f 4 * g 2) * 2251799813685248 + (f 3 * g 4 + f 4 * g 3) * 5070602400912917605986812821504 + f 4 * g 4 * 11417981541647679048466287755595961091061972992 = q
 omega
end Go.Fld
namespace Go.Proofs.YtllmbkmghmmhfaaDoor.W
open Go Go.Eng Go.Byt
open Go.Fld Go.Ed
theorem ck (x y c : Int) (hx : In x 0 18446744073709551615) (hy : In y 0 18446744073709551615) (hc : In c 0 1) (w : World) :
   (callFunc 31 #[.int .u64 x, .int .u64 y, .int .u64 c]).run Tryd.prog w = .ok (.value (.tuple #[.int .u64 ((x + y + c) % 18446744073709551616), .int .u64 ((x + y + c) / 18446744073709551616)])) w := by
 rw [run_callFunc_extern Tryd.func31 (by kernel_rfl) (by kernel_rfl) (by kernel_rfl) (e := add64Entry) (by kernel_rfl), run_add64 x y c hx.1 hy.1 hc.1 hc.2]
 simp only [Result.andThen]
theorem mf {x y x0 x1 y0 y1 : Int} (h0 : x0 = x % 4294967296) (h1 : x1 = x / 4294967296) (h2 : y0 = y % 4294967296) (h3 : y1 = y / 4294967296) : x * y = x1 * y1 * 18446744073709551616 + (x1 * y0 + x0 * y1) * 4294967296 + x0 * y0 := by
 have e1 : x = x1 * 4294967296 + x0 := by omega
 have e2 : y = y1 * 4294967296 + y0 := by omega
 rw [e1, e2]; grind -lia -linarith
theorem fz (x y : Int) (hx : In x 0 18446744073709551615) (hy : In y 0 18446744073709551615) (w : World) : Rets Tryd.prog 30 [.int .u64 x, .int .u64 y] w (fun v w' => v = .tuple #[.int .u64 (x * y / 18446744073709551616), .int .u64 (x * y % 18446744073709551616)] ∧ w = w') := by
 refine a7 Tryd.func30 rfl (by decide) Tryd.ntmps30 rfl (fun fin _ hfin => aS (aR (oga rfl rfl (oga rfl rfl (aT (aS (aR (ogm rfl rfl (ag (e' := x % 4294967296) (lo := 0) (hi := 4294967295) (cY rfl rfl) (bd 32 hx rfl rfl rfl rfl rfl rfl) (In.wk (au _ (by decide)) rfl) rfl (fun z1 h1 r1 => oga rfl rfl (aT (aS (aR (ogm rfl rfl (ag (e' := x / 4294967296) (lo := 0) (hi := 4294967295) (bl (m := 4294967296) rfl rfl (by decide) rfl) (rfl) (In.wk (bB hx (by decide)) rfl) rfl (fun z2 h2 r2 => oga rfl rfl (aT (aS (aR (ogm rfl rfl (ag (e' := y % 4294967296) (lo := 0) (hi := 4294967295) (cY rfl rfl) (bd 32 hy rfl rfl rfl rfl rfl rfl) (In.wk (au _ (by decide)) rfl) rfl (fun z3 h3 r3 => oga rfl rfl (aT (aS (aR (ogm rfl rfl (ag (e' := y / 4294967296) (lo := 0) (hi := 4294967295) (bl (m := 4294967296) rfl rfl (by decide) rfl) (rfl) (In.wk (bB hy (by decide)) rfl) rfl (fun z4 h4 r4 => oga rfl rfl (aT (aS (aR (ogm rfl rfl (ogm rfl rfl (ag (e' := z1 * z3) (lo := 0) (hi := 18446744065119617025) (dZ rfl rfl) (am (bZ r1 r3 (by decide) (by decide)) rfl) (In.wk (bZ r1 r3 (by decide) (by decide)) rfl) rfl (fun z5 h5 r5 => ?_)))))))))))))))))))))))))))))))))))
 refine oga rfl rfl (aT (aS (aR (ogm rfl rfl (ogm rfl rfl (ag (e' := z2 * z3) (lo := 0) (hi := 18446744065119617025) (dZ rfl rfl) (am (bZ r2 r3 (by decide) (by decide)) rfl) (In.wk (bZ r2 r3 (by decide) (by decide)) rfl) rfl (fun z6 h6 r6 => ogm rfl rfl (ag (e' := z5 / 4294967296) (lo := 0) (hi := 4294967294) (bl (m := 4294967296) rfl rfl (by decide) rfl) (rfl) (In.wk (bB r5 (by decide)) rfl) rfl (fun z7 h7 r7 => ag (e' := z6 + z7) (lo := 0) (hi := 18446744069414584319) (an rfl rfl) (am (al r6 r7) rfl) (In.wk (al r6 r7) rfl) rfl (fun z8 h8 r8 => oga rfl rfl (aT (aS (aR (ogm rfl rfl (ag (e' := z8 % 4294967296) (lo := 0) (hi := 4294967295) (cY rfl rfl) (bd 32 r8 rfl rfl rfl rfl rfl rfl) (In.wk (au _ (by decide)) rfl) rfl (fun z9 h9 r9 => oga rfl rfl (aT (aS (aR (ogm rfl rfl (ag (e' := z8 / 4294967296) (lo := 0) (hi := 4294967294) (bl (m := 4294967296) rfl rfl (by decide) rfl) (rfl) (In.wk (bB r8 (by decide)) rfl) rfl (fun z10 h10 r10 => oga rfl rfl (aT (aS (aR (ogm rfl rfl (ogm rfl rfl (ogm rfl rfl (ag (e' := z1 * z4) (lo := 0) (hi := 18446744065119617025) (dZ rfl rfl) (am (bZ r1 r4 (by decide) (by decide)) rfl) (In.wk (bZ r1 r4 (by decide) (by decide)) rfl) rfl (fun z11 h11 r11 => ?_))))))))))))))))))))))))))))))
 refine ag (e' := z9 + z11) (lo := 0) (hi := 18446744069414584320) (an rfl rfl) (am (al r9 r11) rfl) (In.wk (al r9 r11) rfl) rfl (fun z12 h12 r12 => oga rfl rfl (aT (aS (aR (ogm rfl rfl (ogm rfl rfl (ag (e' := z2 * z4) (lo := 0) (hi := 18446744065119617025) (dZ rfl rfl) (am (bZ r2 r4 (by decide) (by decide)) rfl) (In.wk (bZ r2 r4 (by decide) (by decide)) rfl) rfl (fun z13 h13 r13 => ogm rfl rfl (ag (e' := z13 + z10) (lo := 0) (hi := 18446744069414584319) (an rfl rfl) (am (al r13 r10) rfl) (In.wk (al r13 r10) rfl) rfl (fun z14 h14 r14 => ogm rfl rfl (ag (e' := z12 / 4294967296) (lo := 0) (hi := 4294967295) (bl (m := 4294967296) rfl rfl (by decide) rfl) (rfl) (In.wk (bB r12 (by decide)) rfl) rfl (fun z15 h15 r15 => ag (e' := z14 + z15) (lo := 0) (hi := 18446744073709551614) (an rfl rfl) (am (al r14 r15) rfl) (In.wk (al r14 r15) rfl) rfl (fun z16 h16 r16 => oga rfl rfl (aT (aS (aR (ogm rfl rfl (ogm rfl rfl (ag (e' := (x * y) % 18446744073709551616) (lo := 0) (hi := 18446744073709551615) (dZ rfl rfl) (cH rfl _) (In.wk (au _ (by decide)) rfl) rfl (fun z17 h17 r17 => oga rfl rfl (aT (dk hfin Tryd.results30 rfl rfl ?_))))))))))))))))))))))
 have hs := mf (x := x) (y := y) h1 h2 h3 h4
 simp only [Eqn, In] at h1 r1 h2 r2 h3 r3 h4 r4 h5 r5 h6 r6 h7 r7 h8 r8 h9 r9 h10 r10 h11 r11 h12 r12 h13 r13 h14 r14 h15 r15 h16 r16 h17 r17 hx hy
 exact ⟨by show Value.tuple #[.int .u64 z16, .int .u64 z17] = _; rw [show z16 = x * y / 18446744073709551616 from by omega, show z17 = x * y % 18446744073709551616 from by omega], rfl⟩
theorem d9 (f : Nat → Int) (hf0 : In (f 0) 0 9223372036854775807) (hf1 : In (f 1) 0 9223372036854775807) (hf2 : In (f 2) 0 9223372036854775807) (hf3 : In (f 3) 0 9223372036854775807) (hf4 : In (f 4) 0 9223372036854775807) (w : World) : Rets Tryd.prog 68 [.agg (iv .u64 5 f).toArray] w (fun v w' => ∃ h c0 c1 c2 c3 c4, v = .agg (iv .u64 5 h).toArray ∧ c0 = f 0 / 2251799813685248 ∧ c1 = (f 1 + c0) / 2251799813685248 ∧ c2 = (f 2 + c1) / 2251799813685248 ∧ c3 = (f 3 + c2) / 2251799813685248 ∧ c4 = (f 4 + c3) / 2251799813685248 ∧ h 0 = f 0 % 2251799813685248 + 19 * c4 ∧ h 1 = (f 1 + c0) % 2251799813685248 ∧ h 2 = (f 2 + c1) % 2251799813685248 ∧ h 3 = (f 3 + c2) % 2251799813685248 ∧ h 4 = (f 4 + c3) % 2251799813685248 ∧ dC h + c4 * 57896044618658097711785492504343953926634992332820282019728792003956564819949 = dC f ∧ Keep [] w w') := by
 have hB : Keep [] w w := Keep.refl _ _
 refine a7 Tryd.func68 rfl (by decide) Tryd.ntmps68 rfl (fun fin _ hfin => aS (aR (a9 (bc (cs := [.int .u64 (f 0), .int .u64 (f 1), .int .u64 (f 2), .int .u64 (f 3), .int .u64 (f 4)]) rfl rfl) rfl ?_)))
 rintro _ w1 ⟨b1, rfl, eb1, hb1, k1, z1⟩
 have ge_b1 : w.heap.size ≤ b1 := by have := hB.size; omega
 replace hB := hB.trans k1
 clear eb1 z1
 refine a9 (ab ah) rfl ?_
 rintro _ w2 ⟨b2, rfl, eb2, hb2, k2, z2⟩
 have ge_b2 : w.heap.size ≤ b2 := by have := hB.size; omega
 have ne_b1_b2 : b1 ≠ b2 := by have := hb1.lt; omega
 obtain ⟨hB, hb1⟩ := bT k2 hB hb1
 clear eb2 z2
 refine aT (aS (aS (aR (ogm rfl rfl (aT (a5 (dQ 4 (aS (aR (aU (bW rfl rfl) rfl (aT (aS (bF rfl (by decide) (a8 (aS (a5 (aS (aR (ogm rfl rfl (oga rfl rfl (aT (aS (bf 9 mixed (by decide +kernel) (fun w3 k3 => ?_))))))))))))))))))))))))
 obtain ⟨hB, hb1, hb2⟩ := cX k3 hB hb1 hb2
 refine ac (ax rfl) rfl (ac (aq (j := 1) (an rfl rfl) (by decide)) rfl (ac (aa aA aY rfl rfl (by decide)) rfl (ac (aZ ai rfl hb1 rfl) rfl (ac (ax rfl) rfl (ac (aa aA aY rfl rfl (by decide)) rfl (ac (aZ ai rfl hb1 rfl) rfl (bk (e' := (f 0) / 2251799813685248) (lo := 0) (hi := 4095) (bl (m := 2251799813685248) rfl rfl (by decide) rfl) (rfl) (In.wk (bB hf0 (by decide)) rfl) rfl (fun z3 h1 r1 => bk (e' := (f 1) + z3) (lo := 0) (hi := 9223372036854779902) (an rfl rfl) (am (al hf1 r1) rfl) (In.wk (al hf1 r1) rfl) rfl (fun z4 h2 r2 => cB (aU (aa aA aY rfl rfl (by decide)) rfl ?_))))))))))
 refine a6 (cD aY rfl rfl rfl hb1 rfl) ?_
 rintro _ w4 ⟨hb3, k4, z5⟩
 replace hb2 := hb2.keep k4 (nm (Ne.symm ne_b1_b2))
 replace hB := hB.new k4 (nw ge_b1)
 clear z5
 replace hb3 : Bk w4 b1 _ [.int .u64 (f 0), .int .u64 z4, .int .u64 (f 2), .int .u64 (f 3), .int .u64 (f 4)] := hb3
 refine aT (aW [(1, _), (2, _), (4, _), (3, _)] ⟨rfl, rfl, rfl, rfl, trivial⟩ (aR (ogm rfl rfl (aU (aa aA aY rfl rfl (by decide)) rfl (aU (aZ ai rfl hb3 rfl) rfl (ag (e' := (f 0) % 2251799813685248) (lo := 0) (hi := 2251799813685247) (cY rfl rfl) (bd 51 hf0 rfl rfl rfl rfl rfl rfl) (In.wk (au _ (by decide)) rfl) rfl (fun z6 h3 r3 => aU (aa aA aY rfl rfl (by decide)) rfl (a6 (cD aY rfl rfl rfl hb3 rfl) ?_))))))))
 rintro _ w5 ⟨hb4, k5, z7⟩
 replace hb2 := hb2.keep k5 (nm (Ne.symm ne_b1_b2))
 replace hB := hB.new k5 (nw ge_b1)
 clear z7
 replace hb4 : Bk w5 b1 _ [.int .u64 z6, .int .u64 z4, .int .u64 (f 2), .int .u64 (f 3), .int .u64 (f 4)] := hb4
 refine aT (bg (aR (aU (aq (j := 1) (an rfl rfl) (by decide)) rfl (ogm rfl rfl (aT (bn (aS (aR (aU (bW rfl rfl) rfl (aT (aS (bF rfl (by decide) (a8 (aS (a5 (aS (aR (ogm rfl rfl (oga rfl rfl (aT (aS (bf 9 mixed (by decide +kernel) (fun w6 k6 => ?_)))))))))))))))))))))))
 obtain ⟨hB, hb2, hb4⟩ := cX k6 hB hb2 hb4
 refine ac (ax rfl) rfl (ac (aq (j := 2) (an rfl rfl) (by decide)) rfl (ac (aa aA aY rfl rfl (by decide)) rfl (ac (aZ ai rfl hb4 rfl) rfl (ac (ax rfl) rfl (ac (aa aA aY rfl rfl (by decide)) rfl (ac (aZ ai rfl hb4 rfl) rfl (bk (e' := z4 / 2251799813685248) (lo := 0) (hi := 4096) (bl (m := 2251799813685248) rfl rfl (by decide) rfl) (rfl) (In.wk (bB r2 (by decide)) rfl) rfl (fun z8 h4 r4 => bk (e' := (f 2) + z8) (lo := 0) (hi := 9223372036854779903) (an rfl rfl) (am (al hf2 r4) rfl) (In.wk (al hf2 r4) rfl) rfl (fun z9 h5 r5 => cB (aU (aa aA aY rfl rfl (by decide)) rfl ?_))))))))))
 refine a6 (cD aY rfl rfl rfl hb4 rfl) ?_
 rintro _ w7 ⟨hb5, k7, z10⟩
 replace hb2 := hb2.keep k7 (nm (Ne.symm ne_b1_b2))
 replace hB := hB.new k7 (nw ge_b1)
 clear z10
 replace hb5 : Bk w7 b1 _ [.int .u64 z6, .int .u64 z4, .int .u64 z9, .int .u64 (f 3), .int .u64 (f 4)] := hb5
 refine aT (aW [(1, _), (2, _), (4, _), (3, _)] ⟨rfl, rfl, rfl, rfl, trivial⟩ (aR (ogm rfl rfl (aU (aa aA aY rfl rfl (by decide)) rfl (aU (aZ ai rfl hb5 rfl) rfl (ag (e' := z4 % 2251799813685248) (lo := 0) (hi := 2251799813685247) (cY rfl rfl) (bd 51 r2 rfl rfl rfl rfl rfl rfl) (In.wk (au _ (by decide)) rfl) rfl (fun z11 h6 r6 => aU (aa aA aY rfl rfl (by decide)) rfl (a6 (cD aY rfl rfl rfl hb5 rfl) ?_))))))))
 rintro _ w8 ⟨hb6, k8, z12⟩
 replace hb2 := hb2.keep k8 (nm (Ne.symm ne_b1_b2))
 replace hB := hB.new k8 (nw ge_b1)
 clear z12
 replace hb6 : Bk w8 b1 _ [.int .u64 z6, .int .u64 z11, .int .u64 z9, .int .u64 (f 3), .int .u64 (f 4)] := hb6
 refine aT (bg (aR (aU (aq (j := 2) (an rfl rfl) (by decide)) rfl (ogm rfl rfl (aT (bn (aS (aR (aU (bW rfl rfl) rfl (aT (aS (bF rfl (by decide) (a8 (aS (a5 (aS (aR (ogm rfl rfl (oga rfl rfl (aT (aS (bf 9 mixed (by decide +kernel) (fun w9 k9 => ?_)))))))))))))))))))))))
 obtain ⟨hB, hb2, hb6⟩ := cX k9 hB hb2 hb6
 refine ac (ax rfl) rfl (ac (aq (j := 3) (an rfl rfl) (by decide)) rfl (ac (aa aA aY rfl rfl (by decide)) rfl (ac (aZ ai rfl hb6 rfl) rfl (ac (ax rfl) rfl (ac (aa aA aY rfl rfl (by decide)) rfl (ac (aZ ai rfl hb6 rfl) rfl (bk (e' := z9 / 2251799813685248) (lo := 0) (hi := 4096) (bl (m := 2251799813685248) rfl rfl (by decide) rfl) (rfl) (In.wk (bB r5 (by decide)) rfl) rfl (fun z13 h7 r7 => bk (e' := (f 3) + z13) (lo := 0) (hi := 9223372036854779903) (an rfl rfl) (am (al hf3 r7) rfl) (In.wk (al hf3 r7) rfl) rfl (fun z14 h8 r8 => cB (aU (aa aA aY rfl rfl (by decide)) rfl ?_))))))))))
 refine a6 (cD aY rfl rfl rfl hb6 rfl) ?_
 rintro _ w10 ⟨hb7, k10, z15⟩
 replace hb2 := hb2.keep k10 (nm (Ne.symm ne_b1_b2))
 replace hB := hB.new k10 (nw ge_b1)
 clear z15
 replace hb7 : Bk w10 b1 _ [.int .u64 z6, .int .u64 z11, .int .u64 z9, .int .u64 z14, .int .u64 (f 4)] := hb7
 refine aT (aW [(1, _), (2, _), (4, _), (3, _)] ⟨rfl, rfl, rfl, rfl, trivial⟩ (aR (ogm rfl rfl (aU (aa aA aY rfl rfl (by decide)) rfl (aU (aZ ai rfl hb7 rfl) rfl (ag (e' := z9 % 2251799813685248) (lo := 0) (hi := 2251799813685247) (cY rfl rfl) (bd 51 r5 rfl rfl rfl rfl rfl rfl) (In.wk (au _ (by decide)) rfl) rfl (fun z16 h9 r9 => aU (aa aA aY rfl rfl (by decide)) rfl (a6 (cD aY rfl rfl rfl hb7 rfl) ?_))))))))
 rintro _ w11 ⟨hb8, k11, z17⟩
 replace hb2 := hb2.keep k11 (nm (Ne.symm ne_b1_b2))
 replace hB := hB.new k11 (nw ge_b1)
 clear z17
 replace hb8 : Bk w11 b1 _ [.int .u64 z6, .int .u64 z11, .int .u64 z16, .int .u64 z14, .int .u64 (f 4)] := hb8
 refine aT (bg (aR (aU (aq (j := 3) (an rfl rfl) (by decide)) rfl (ogm rfl rfl (aT (bn (aS (aR (aU (bW rfl rfl) rfl (aT (aS (bF rfl (by decide) (a8 (aS (a5 (aS (aR (ogm rfl rfl (oga rfl rfl (aT (aS (bf 9 mixed (by decide +kernel) (fun w12 k12 => ?_)))))))))))))))))))))))
 obtain ⟨hB, hb2, hb8⟩ := cX k12 hB hb2 hb8
 refine ac (ax rfl) rfl (ac (aq (j := 4) (an rfl rfl) (by decide)) rfl (ac (aa aA aY rfl rfl (by decide)) rfl (ac (aZ ai rfl hb8 rfl) rfl (ac (ax rfl) rfl (ac (aa aA aY rfl rfl (by decide)) rfl (ac (aZ ai rfl hb8 rfl) rfl (bk (e' := z14 / 2251799813685248) (lo := 0) (hi := 4096) (bl (m := 2251799813685248) rfl rfl (by decide) rfl) (rfl) (In.wk (bB r8 (by decide)) rfl) rfl (fun z18 h10 r10 => bk (e' := (f 4) + z18) (lo := 0) (hi := 9223372036854779903) (an rfl rfl) (am (al hf4 r10) rfl) (In.wk (al hf4 r10) rfl) rfl (fun z19 h11 r11 => cB (aU (aa aA aY rfl rfl (by decide)) rfl ?_))))))))))
 refine a6 (cD aY rfl rfl rfl hb8 rfl) ?_
 rintro _ w13 ⟨hb9, k13, z20⟩
 replace hb2 := hb2.keep k13 (nm (Ne.symm ne_b1_b2))
 replace hB := hB.new k13 (nw ge_b1)
 clear z20
 replace hb9 : Bk w13 b1 _ [.int .u64 z6, .int .u64 z11, .int .u64 z16, .int .u64 z14, .int .u64 z19] := hb9
 refine aT (aW [(1, _), (2, _), (4, _), (3, _)] ⟨rfl, rfl, rfl, rfl, trivial⟩ (aR (ogm rfl rfl (aU (aa aA aY rfl rfl (by decide)) rfl (aU (aZ ai rfl hb9 rfl) rfl (ag (e' := z14 % 2251799813685248) (lo := 0) (hi := 2251799813685247) (cY rfl rfl) (bd 51 r8 rfl rfl rfl rfl rfl rfl) (In.wk (au _ (by decide)) rfl) rfl (fun z21 h12 r12 => aU (aa aA aY rfl rfl (by decide)) rfl (a6 (cD aY rfl rfl rfl hb9 rfl) ?_))))))))
 rintro _ w14 ⟨hb10, k14, z22⟩
 replace hb2 := hb2.keep k14 (nm (Ne.symm ne_b1_b2))
 replace hB := hB.new k14 (nw ge_b1)
 clear z22
 replace hb10 : Bk w14 b1 _ [.int .u64 z6, .int .u64 z11, .int .u64 z16, .int .u64 z21, .int .u64 z19] := hb10
 refine aT (bg (aR (aU (aq (j := 4) (an rfl rfl) (by decide)) rfl (ogm rfl rfl (aT (bn (aS (aR (aU (bW rfl rfl) rfl (aT (aS (cU rfl (by decide) (bE rfl (aS (aR (aU (aa aA aY rfl rfl (by decide)) rfl (aU (aZ ai rfl hb10 rfl) rfl (aU (aa aA aY rfl rfl (by decide)) rfl (aU (aZ ai rfl hb10 rfl) rfl (ag (e' := z19 / 2251799813685248) (lo := 0) (hi := 4096) (bl (m := 2251799813685248) rfl rfl (by decide) rfl) (rfl) (In.wk (bB r11 (by decide)) rfl) rfl (fun z23 h13 r13 => ?_)))))))))))))))))))))
 refine ag (e' := 19 * z23) (lo := 0) (hi := 77824) (dZ rfl rfl) (am (co r13 (by decide)) rfl) (In.wk (co r13 (by decide)) rfl) rfl (fun z24 h14 r14 => ag (e' := z6 + z24) (lo := 0) (hi := 2251799813763071) (an rfl rfl) (am (al r3 r14) rfl) (In.wk (al r3 r14) rfl) rfl (fun z25 h15 r15 => aU (aa aA aY rfl rfl (by decide)) rfl (a6 (cD aY rfl rfl rfl hb10 rfl) ?_)))
 rintro _ w15 ⟨hb11, k15, z26⟩
 replace hb2 := hb2.keep k15 (nm (Ne.symm ne_b1_b2))
 replace hB := hB.new k15 (nw ge_b1)
 clear z26
 replace hb11 : Bk w15 b1 _ [.int .u64 z25, .int .u64 z11, .int .u64 z16, .int .u64 z21, .int .u64 z19] := hb11
 refine aT (aW [(1, _), (2, _)] ⟨rfl, rfl, trivial⟩ (aS (aR (aU (aa aA aY rfl rfl (by decide)) rfl (aU (aZ ai rfl hb11 rfl) rfl (ag (e' := z19 % 2251799813685248) (lo := 0) (hi := 2251799813685247) (cY rfl rfl) (bd 51 r11 rfl rfl rfl rfl rfl rfl) (In.wk (au _ (by decide)) rfl) rfl (fun z27 h16 r16 => aU (aa aA aY rfl rfl (by decide)) rfl (a6 (cD aY rfl rfl rfl hb11 rfl) ?_))))))))
 rintro _ w16 ⟨hb12, k16, z28⟩
 replace hb2 := hb2.keep k16 (nm (Ne.symm ne_b1_b2))
 replace hB := hB.new k16 (nw ge_b1)
 clear z28
 replace hb12 : Bk w16 b1 _ [.int .u64 z25, .int .u64 z11, .int .u64 z16, .int .u64 z21, .int .u64 z27] := hb12
 refine aT (aS (aR (aU (aX (cs' := [_, _, _, _, _]) ay ah rfl hb12 rfl rfl) rfl (a6 (ak ah rfl rfl rfl (by simp only [List.forall_mem_cons]; refine ⟨rfl, rfl, rfl, rfl, rfl, fun v hv => by cases hv⟩) hb2 rfl) ?_))))
 rintro _ w17 ⟨hb13, k17, z29⟩
 replace hB := hB.new k17 (nw ge_b2)
 clear z29
 replace hb13 : Bk w17 b2 _ [.int .u64 z25, .int .u64 z11, .int .u64 z16, .int .u64 z21, .int .u64 z27] := hb13
 refine aT (bP hfin Tryd.results68 rfl (ae ay ah hb13 rfl)  ?_)
 simp only [Eqn, In] at h1 r1 h2 r2 h3 r3 h4 r4 h5 r5 h6 r6 h7 r7 h8 r8 h9 r9 h10 r10 h11 r11 h12 r12 h13 r13 h14 r14 h15 r15 h16 r16 hf0 hf1 hf2 hf3 hf4
 exact ⟨(vecN [z25, z11, z16, z21, z27]), _, _, _, _, _, rfl, rfl, rfl, rfl, rfl, rfl, (by show z25 = _; omega), (by show z11 = _; omega), (by show z16 = _; omega), (by show z21 = _; omega), (by show z27 = _; omega), (by show z25 + z11 * 2251799813685248 + z16 * 5070602400912917605986812821504 + z21 * 11417981541647679048466287755595961091061972992 + z27 * 25711008708143844408671393477458601640355247900524685364822016 + _ = dC f; unfold dC; omega), hB⟩
theorem bX (h0 l0 x y b c d e : Int) (rh0 : In h0 0 18446744073709551615) (rl0 : In l0 0 18446744073709551615) (hx : In x 0 18446744073709551615) (hy : In y 0 18446744073709551615) (hb : Le (h0 * 18446744073709551616 + l0) b) (hc : x * y ≤ c) (hd : b + c = d) (he : d / 18446744073709551616 = e) (hm : e ≤ 18446744073709551615) (w : World) : Rets Tryd.prog 67 [.agg [.int .u64 h0, .int .u64 l0].toArray, .int .u64 x, .int .u64 y] w (fun v w' => ∃ hi lo, v = .agg [.int .u64 hi, .int .u64 lo].toArray ∧ In hi 0 e ∧ In lo 0 18446744073709551615 ∧ Eqn (hi * 18446744073709551616 + lo) (h0 * 18446744073709551616 + l0 + x * y) ∧ Le (hi * 18446744073709551616 + lo) d ∧ Keep [] w w') := by
 have hB : Keep [] w w := Keep.refl _ _
 have hxy : 0 ≤ x * y := Int.mul_nonneg hx.1 hy.1
 refine a7 Tryd.func67 rfl (by decide) Tryd.ntmps67 rfl (fun fin _ hfin => aS (aR (a9 (bc (cs := [.int .u64 h0, .int .u64 l0]) rfl rfl) rfl ?_)))
 rintro _ w1 ⟨b1, rfl, eb1, hb1, k1, z1⟩
 have ge_b1 : w.heap.size ≤ b1 := by have := hB.size; omega
 replace hB := hB.trans k1
 clear eb1 z1
 refine a9 (ab cg) rfl ?_
 rintro _ w2 ⟨b2, rfl, eb2, hb2, k2, z2⟩
 have ge_b2 : w.heap.size ≤ b2 := by have := hB.size; omega
 have ne_b1_b2 : b1 ≠ b2 := by have := hb1.lt; omega
 obtain ⟨hB, hb1⟩ := bT k2 hB hb1
 clear eb2 z2
 refine aT (aS (aR (ogm rfl rfl (ogm rfl rfl (a9 (aV (vs := [_, _]) rfl (fz _ _ (In.wk hx rfl) (In.wk hy rfl) _)) rfl ?_)))))
 rintro _ _ ⟨rfl, rfl⟩
 refine ogm rfl rfl (ag (e' := (x * y / 18446744073709551616)) (lo := 0) (hi := 18446744073709551614) (ar (vs := [_, _]) rfl rfl) (rfl) (In.wk (bB (bZ hx hy (by decide) (by decide)) (by decide)) rfl) rfl (fun z3 h1 r1 => ag (e' := (x * y % 18446744073709551616)) (lo := 0) (hi := 18446744073709551615) (ar (vs := [_, _]) rfl rfl) (rfl) (In.wk (au _ (by decide)) rfl) rfl (fun z4 h2 r2 => oga rfl rfl (oga rfl rfl (aT (aS (aR (oga rfl rfl (aT (aW [(3, _), (6, _), (7, _), (8, _)] ⟨rfl, rfl, rfl, rfl, trivial⟩ (aS (aR (aU (cT aI rfl aY (by decide) rfl) rfl (aU (aZ ai rfl hb1 rfl) rfl (ogm rfl rfl (aU (d5 (vs := [_, _, _]) rfl (ck _ _ _ (In.wk rl0 rfl) (In.wk r2 rfl) (In.wk (dG 0) rfl))) rfl (ogm rfl rfl (ag (e' := ((l0 + z4 + 0) % 18446744073709551616)) (lo := 0) (hi := 18446744073709551615) (ar (vs := [_, _]) rfl rfl) (rfl) (In.wk (au _ (by decide)) rfl) rfl (fun z5 h3 r3 => ag (e' := ((l0 + z4 + 0) / 18446744073709551616)) (lo := 0) (hi := 1) (ar (vs := [_, _]) rfl rfl) (rfl) (In.wk (bB (al (al rl0 r2) (dG 0)) (by decide)) rfl) rfl (fun z6 h4 r4 => ?_))))))))))))))))))))
 refine aU (cT aI rfl aY (by decide) rfl) rfl (a6 (cD aY rfl rfl rfl hb1 rfl) ?_)
 rintro _ w3 ⟨hb3, k3, z7⟩
 replace hb2 := hb2.keep k3 (nm (Ne.symm ne_b1_b2))
 replace hB := hB.new k3 (nw ge_b1)
 clear z7
 replace hb3 : Bk w3 b1 _ [.int .u64 h0, .int .u64 z5] := hb3
 refine oga rfl rfl (aT (aS (aR (aU (cT aI rfl aY (by decide) rfl) rfl (aU (aZ ai rfl hb3 rfl) rfl (ogm rfl rfl (ogm rfl rfl (aU (d5 (vs := [_, _, _]) rfl (ck _ _ _ (In.wk rh0 rfl) (In.wk r1 rfl) (In.wk r4 rfl))) rfl (ogm rfl rfl (ag (e' := ((h0 + z3 + z6) % 18446744073709551616)) (lo := 0) (hi := 18446744073709551615) (ar (vs := [_, _]) rfl rfl) (rfl) (In.wk (au _ (by decide)) rfl) rfl (fun z8 h5 r5 => ag (e' := ((h0 + z3 + z6) / 18446744073709551616)) (lo := 0) (hi := 1) (ar (vs := [_, _]) rfl rfl) (rfl) (In.wk (bB (al (al rh0 r1) r4) (by decide)) rfl) rfl (fun z9 h6 r6 => aU (cT aI rfl aY (by decide) rfl) rfl (a6 (cD aY rfl rfl rfl hb3 rfl) ?_)))))))))))))
 rintro _ w4 ⟨hb4, k4, z10⟩
 replace hb2 := hb2.keep k4 (nm (Ne.symm ne_b1_b2))
 replace hB := hB.new k4 (nw ge_b1)
 clear z10
 replace hb4 : Bk w4 b1 _ [.int .u64 z8, .int .u64 z5] := hb4
 refine aT (aW [(3, _), (6, _)] ⟨rfl, rfl, trivial⟩ (aS (aR (aU (aX (cs' := [_, _]) iT cg rfl hb4 rfl rfl) rfl (a6 (ak cg rfl rfl rfl (by simp only [List.forall_mem_cons]; refine ⟨rfl, rfl, fun v hv => by cases hv⟩) hb2 rfl) ?_)))))
 rintro _ w5 ⟨hb5, k5, z11⟩
 replace hB := hB.new k5 (nw ge_b2)
 clear z11
 replace hb5 : Bk w5 b2 _ [.int .u64 z8, .int .u64 z5] := hb5
 refine aT (bP hfin Tryd.results67 rfl (ae iT cg hb5 rfl)  ?_)
 simp only [Eqn, In] at h1 r1 h2 r2 h3 r3 h4 r4 h5 r5 h6 r6 hx hy rh0 rl0
 unfold Le at hb
 exact ⟨z8, z5, rfl, by unfold In; omega, by unfold In; omega, by unfold Eqn; omega, by unfold Le; omega, hB⟩
theorem add_any (f g : Nat → Int) (a b : Fp) (hf : El f a) (hg : El g b) (w : World) : Rets Tryd.prog 60 [.agg (iv .u64 5 f).toArray, .agg (iv .u64 5 g).toArray] w (fun v w' => ∃ h, v = .agg (iv .u64 5 h).toArray ∧ El h (a + b) ∧ Keep [] w w') := by
 have hB : Keep [] w w := Keep.refl _ _
 obtain ⟨f0, f1, f2, f3, f4, hfv⟩ := hf
 obtain ⟨g0, g1, g2, g3, g4, hgv⟩ := hg
 refine a7 Tryd.func60 rfl (by decide) Tryd.ntmps60 rfl (fun fin _ hfin => aS (aR (a9 (bc (cs := [.int .u64 (f 0), .int .u64 (f 1), .int .u64 (f 2), .int .u64 (f 3), .int .u64 (f 4)]) rfl rfl) rfl ?_)))
 rintro _ w1 ⟨b1, rfl, eb1, hb1, k1, z1⟩
 have ge_b1 : w.heap.size ≤ b1 := by have := hB.size; omega
 replace hB := hB.trans k1
 clear eb1 z1
 refine a9 (bc (cs := [.int .u64 (g 0), .int .u64 (g 1), .int .u64 (g 2), .int .u64 (g 3), .int .u64 (g 4)]) rfl rfl) rfl ?_
 rintro _ w2 ⟨b2, rfl, eb2, hb2, k2, z2⟩
 have ne_b1_b2 : b1 ≠ b2 := by have := hb1.lt; omega
 obtain ⟨hB, hb1⟩ := bT k2 hB hb1
 clear eb2 z2
 refine a9 (ab ah) rfl ?_
 rintro _ w3 ⟨b3, rfl, eb3, hb3, k3, z3⟩
 have ge_b3 : w.heap.size ≤ b3 := by have := hB.size; omega
 have ne_b1_b3 : b1 ≠ b3 := by have := hb1.lt; omega
 obtain ⟨hB, hb1, hb2⟩ := cX k3 hB hb1 hb2
 clear eb3 z3
 refine aT (aS (aS (aR (ogm rfl rfl (aT (a5 (dQ 5 (aS (aR (aU (bW rfl rfl) rfl (aT (aS (bF rfl (by decide) (a8 (aS (a5 (aS (aR (ogm rfl rfl (oga rfl rfl (aT (bf 7 mixed (by decide +kernel) (fun w4 k4 => ?_)))))))))))))))))))))))
 obtain ⟨hB, hb1, hb2, hb3⟩ := cy k4 hB hb1 hb2 hb3
 refine ac (ax rfl) rfl (ac (aa aA aY rfl rfl (by decide)) rfl (ac (aZ ai rfl hb1 rfl) rfl (ac (ax rfl) rfl (ac (aa aA aY rfl rfl (by decide)) rfl (ac (aZ ai rfl hb2 rfl) rfl (bk (e' := (f 0) + (g 0)) (lo := 0) (hi := 9007199254740990) (an rfl rfl) (am (al f0 g0) rfl) (In.wk (al f0 g0) rfl) rfl (fun z4 h1 r1 => cB (aU (aa aA aY rfl rfl (by decide)) rfl (a6 (cD aY rfl rfl rfl hb1 rfl) ?_)))))))))
 rintro _ w5 ⟨hb4, k5, z5⟩
 replace hb2 := hb2.keep k5 (nm (Ne.symm ne_b1_b2))
 replace hb3 := hb3.keep k5 (nm (Ne.symm ne_b1_b3))
 replace hB := hB.new k5 (nw ge_b1)
 clear z5
 replace hb4 : Bk w5 b1 _ [.int .u64 z4, .int .u64 (f 1), .int .u64 (f 2), .int .u64 (f 3), .int .u64 (f 4)] := hb4
 refine aT (aW [(2, _), (3, _), (4, _), (6, _)] ⟨rfl, rfl, rfl, rfl, trivial⟩ (bg (aR (aU (aq (j := 1) (an rfl rfl) (by decide)) rfl (ogm rfl rfl (aT (bn (aS (aR (aU (bW rfl rfl) rfl (aT (aS (bF rfl (by decide) (a8 (aS (a5 (aS (aR (ogm rfl rfl (oga rfl rfl (aT (bf 7 mixed (by decide +kernel) (fun w6 k6 => ?_)))))))))))))))))))))))
 obtain ⟨hB, hb2, hb3, hb4⟩ := cy k6 hB hb2 hb3 hb4
 refine ac (ax rfl) rfl (ac (aa aA aY rfl rfl (by decide)) rfl (ac (aZ ai rfl hb4 rfl) rfl (ac (ax rfl) rfl (ac (aa aA aY rfl rfl (by decide)) rfl (ac (aZ ai rfl hb2 rfl) rfl (bk (e' := (f 1) + (g 1)) (lo := 0) (hi := 9007199254740990) (an rfl rfl) (am (al f1 g1) rfl) (In.wk (al f1 g1) rfl) rfl (fun z6 h2 r2 => cB (aU (aa aA aY rfl rfl (by decide)) rfl (a6 (cD aY rfl rfl rfl hb4 rfl) ?_)))))))))
 rintro _ w7 ⟨hb5, k7, z7⟩
 replace hb2 := hb2.keep k7 (nm (Ne.symm ne_b1_b2))
 replace hb3 := hb3.keep k7 (nm (Ne.symm ne_b1_b3))
 replace hB := hB.new k7 (nw ge_b1)
 clear z7
 replace hb5 : Bk w7 b1 _ [.int .u64 z4, .int .u64 z6, .int .u64 (f 2), .int .u64 (f 3), .int .u64 (f 4)] := hb5
 refine aT (aW [(2, _), (3, _), (4, _), (6, _)] ⟨rfl, rfl, rfl, rfl, trivial⟩ (bg (aR (aU (aq (j := 2) (an rfl rfl) (by decide)) rfl (ogm rfl rfl (aT (bn (aS (aR (aU (bW rfl rfl) rfl (aT (aS (bF rfl (by decide) (a8 (aS (a5 (aS (aR (ogm rfl rfl (oga rfl rfl (aT (bf 7 mixed (by decide +kernel) (fun w8 k8 => ?_)))))))))))))))))))))))
 obtain ⟨hB, hb2, hb3, hb5⟩ := cy k8 hB hb2 hb3 hb5
 refine ac (ax rfl) rfl (ac (aa aA aY rfl rfl (by decide)) rfl (ac (aZ ai rfl hb5 rfl) rfl (ac (ax rfl) rfl (ac (aa aA aY rfl rfl (by decide)) rfl (ac (aZ ai rfl hb2 rfl) rfl (bk (e' := (f 2) + (g 2)) (lo := 0) (hi := 9007199254740990) (an rfl rfl) (am (al f2 g2) rfl) (In.wk (al f2 g2) rfl) rfl (fun z8 h3 r3 => cB (aU (aa aA aY rfl rfl (by decide)) rfl (a6 (cD aY rfl rfl rfl hb5 rfl) ?_)))))))))
 rintro _ w9 ⟨hb6, k9, z9⟩
 replace hb2 := hb2.keep k9 (nm (Ne.symm ne_b1_b2))
 replace hb3 := hb3.keep k9 (nm (Ne.symm ne_b1_b3))
 replace hB := hB.new k9 (nw ge_b1)
 clear z9
 replace hb6 : Bk w9 b1 _ [.int .u64 z4, .int .u64 z6, .int .u64 z8, .int .u64 (f 3), .int .u64 (f 4)] := hb6
 refine aT (aW [(2, _), (3, _), (4, _), (6, _)] ⟨rfl, rfl, rfl, rfl, trivial⟩ (bg (aR (aU (aq (j := 3) (an rfl rfl) (by decide)) rfl (ogm rfl rfl (aT (bn (aS (aR (aU (bW rfl rfl) rfl (aT (aS (bF rfl (by decide) (a8 (aS (a5 (aS (aR (ogm rfl rfl (oga rfl rfl (aT (bf 7 mixed (by decide +kernel) (fun w10 k10 => ?_)))))))))))))))))))))))
 obtain ⟨hB, hb2, hb3, hb6⟩ := cy k10 hB hb2 hb3 hb6
 refine ac (ax rfl) rfl (ac (aa aA aY rfl rfl (by decide)) rfl (ac (aZ ai rfl hb6 rfl) rfl (ac (ax rfl) rfl (ac (aa aA aY rfl rfl (by decide)) rfl (ac (aZ ai rfl hb2 rfl) rfl (bk (e' := (f 3) + (g 3)) (lo := 0) (hi := 9007199254740990) (an rfl rfl) (am (al f3 g3) rfl) (In.wk (al f3 g3) rfl) rfl (fun z10 h4 r4 => cB (aU (aa aA aY rfl rfl (by decide)) rfl (a6 (cD aY rfl rfl rfl hb6 rfl) ?_)))))))))
 rintro _ w11 ⟨hb7, k11, z11⟩
 replace hb2 := hb2.keep k11 (nm (Ne.symm ne_b1_b2))
 replace hb3 := hb3.keep k11 (nm (Ne.symm ne_b1_b3))
 replace hB := hB.new k11 (nw ge_b1)
 clear z11
 replace hb7 : Bk w11 b1 _ [.int .u64 z4, .int .u64 z6, .int .u64 z8, .int .u64 z10, .int .u64 (f 4)] := hb7
 refine aT (aW [(2, _), (3, _), (4, _), (6, _)] ⟨rfl, rfl, rfl, rfl, trivial⟩ (bg (aR (aU (aq (j := 4) (an rfl rfl) (by decide)) rfl (ogm rfl rfl (aT (bn (aS (aR (aU (bW rfl rfl) rfl (aT (aS (bF rfl (by decide) (a8 (aS (a5 (aS (aR (ogm rfl rfl (oga rfl rfl (aT (bf 7 mixed (by decide +kernel) (fun w12 k12 => ?_)))))))))))))))))))))))
 obtain ⟨hB, hb2, hb3, hb7⟩ := cy k12 hB hb2 hb3 hb7
 refine ac (ax rfl) rfl (ac (aa aA aY rfl rfl (by decide)) rfl (ac (aZ ai rfl hb7 rfl) rfl (ac (ax rfl) rfl (ac (aa aA aY rfl rfl (by decide)) rfl (ac (aZ ai rfl hb2 rfl) rfl (bk (e' := (f 4) + (g 4)) (lo := 0) (hi := 9007199254740990) (an rfl rfl) (am (al f4 g4) rfl) (In.wk (al f4 g4) rfl) rfl (fun z12 h5 r5 => cB (aU (aa aA aY rfl rfl (by decide)) rfl (a6 (cD aY rfl rfl rfl hb7 rfl) ?_)))))))))
 rintro _ w13 ⟨hb8, k13, z13⟩
 replace hb3 := hb3.keep k13 (nm (Ne.symm ne_b1_b3))
 replace hB := hB.new k13 (nw ge_b1)
 clear z13
 replace hb8 : Bk w13 b1 _ [.int .u64 z4, .int .u64 z6, .int .u64 z8, .int .u64 z10, .int .u64 z12] := hb8
 refine aT (aW [(2, _), (3, _), (4, _), (6, _)] ⟨rfl, rfl, rfl, rfl, trivial⟩ (bg (aR (aU (aq (j := 5) (an rfl rfl) (by decide)) rfl (ogm rfl rfl (aT (bn (aS (aR (aU (bW rfl rfl) rfl (aT (aS (cU rfl (by decide) (bE rfl (aS (aR (aU (aX (cs' := [_, _, _, _, _]) ay ah rfl hb8 rfl rfl) rfl (a9 (aV (vs := [_]) rfl (d9 (vecN [z4, z6, z8, z10, z12]) (In.wk r1 rfl) (In.wk r2 rfl) (In.wk r3 rfl) (In.wk r4 rfl) (In.wk r5 rfl) _)) rfl ?_))))))))))))))))))
 rintro _ w14 ⟨hh1, c01, c11, c21, c31, c41, rfl, e01, e11, e21, e31, e41, g01, g11, g21, g31, g41, gv1, k14⟩
 obtain ⟨hB, hb3⟩ := bT k14 hB hb3
 replace e01 : c01 = z4 / 2251799813685248 := e01
 replace e11 : c11 = (z6 + c01) / 2251799813685248 := e11
 replace e21 : c21 = (z8 + c11) / 2251799813685248 := e21
 replace e31 : c31 = (z10 + c21) / 2251799813685248 := e31
 replace e41 : c41 = (z12 + c31) / 2251799813685248 := e41
 replace g01 : hh1 0 = z4 % 2251799813685248 + 19 * c41 := g01
 replace g11 : hh1 1 = (z6 + c01) % 2251799813685248 := g11
 replace g21 : hh1 2 = (z8 + c11) % 2251799813685248 := g21
 replace g31 : hh1 3 = (z10 + c21) % 2251799813685248 := g31
 replace g41 : hh1 4 = (z12 + c31) % 2251799813685248 := g41
 replace gv1 : dC hh1 + c41 * 57896044618658097711785492504343953926634992332820282019728792003956564819949 = z4 + z6 * 2251799813685248 + z8 * 5070602400912917605986812821504 + z10 * 11417981541647679048466287755595961091061972992 + z12 * 25711008708143844408671393477458601640355247900524685364822016 := gv1
 obtain ⟨r6, r7, r8, r9, r10⟩ := cf (t := 2251799813685323) e01 e11 e21 e31 e41 g01 g11 g21 g31 g41 (In.wk r1 rfl : In _ 0 9007199254740990) (In.wk r2 rfl : In _ 0 9007199254740990) (In.wk r3 rfl : In _ 0 9007199254740990) (In.wk r4 rfl : In _ 0 9007199254740990) (In.wk r5 rfl : In _ 0 9007199254740990) rfl
 refine a6 (ak ah rfl rfl rfl ad hb3 rfl) ?_
 rintro _ w15 ⟨hb9, k15, z14⟩
 replace hB := hB.new k15 (nw ge_b3)
 clear z14
 replace hb9 := cv (g := hh1) hb9
 refine aT (bP hfin Tryd.results60 rfl (ae ay ah hb9 rfl)  ?_)
 simp only [Eqn, In] at h1 r1 h2 r2 h3 r3 h4 r4 h5 r5 f0 f1 f2 f3 f4 g0 g1 g2 g3 g4
 exact ⟨hh1, rfl, ⟨(In.wk r6 rfl), (In.wk r7 rfl), (In.wk r8 rfl), (In.wk r9 rfl), (In.wk r10 rfl), by rw [show dC hh1 = dC f + dC g + (-c41) * 57896044618658097711785492504343953926634992332820282019728792003956564819949 from by unfold dC at *; omega, iH (b := dC f + dC g) (-c41) rfl, oX, hfv, hgv]⟩, hB⟩
theorem jC (f g : Nat → Int) (a b : Fp) (hf : El f a) (hg : El g b) (w : World) : Rets Tryd.prog 59 [.agg (iv .u64 5 f).toArray, .agg (iv .u64 5 g).toArray] w (fun v w' => ∃ h, v = .agg (iv .u64 5 h).toArray ∧ El h (a - b) ∧ Keep [] w w') := by
 have hB : Keep [] w w := Keep.refl _ _
 obtain ⟨f0, f1, f2, f3, f4, hfv⟩ := hf
 obtain ⟨g0, g1, g2, g3, g4, hgv⟩ := hg
 refine a7 Tryd.func59 rfl (by decide) Tryd.ntmps59 rfl (fun fin _ hfin => aS (aR (a9 (bc (cs := [.int .u64 (f 0), .int .u64 (f 1), .int .u64 (f 2), .int .u64 (f 3), .int .u64 (f 4)]) rfl rfl) rfl ?_)))
 rintro _ w1 ⟨b1, rfl, eb1, hb1, k1, z1⟩
 have ge_b1 : w.heap.size ≤ b1 := by have := hB.size; omega
 replace hB := hB.trans k1
 clear eb1 z1
 refine a9 (bc (cs := [.int .u64 (g 0), .int .u64 (g 1), .int .u64 (g 2), .int .u64 (g 3), .int .u64 (g 4)]) rfl rfl) rfl ?_
 rintro _ w2 ⟨b2, rfl, eb2, hb2, k2, z2⟩
 have ge_b2 : w.heap.size ≤ b2 := by have := hB.size; omega
 have ne_b1_b2 : b1 ≠ b2 := by have := hb1.lt; omega
 obtain ⟨hB, hb1⟩ := bT k2 hB hb1
 clear eb2 z2
 refine a9 (ab ah) rfl ?_
 rintro _ w3 ⟨b3, rfl, eb3, hb3, k3, z3⟩
 have ge_b3 : w.heap.size ≤ b3 := by have := hB.size; omega
 have ne_b1_b3 : b1 ≠ b3 := by have := hb1.lt; omega
 have ne_b2_b3 : b2 ≠ b3 := by have := hb2.lt; omega
 obtain ⟨hB, hb1, hb2⟩ := cX k3 hB hb1 hb2
 clear eb3 z3
 refine aT (aS (aR (aU (cx (idx := [0, 1, 2, 3, 4]) (xs := [.const (.int .u64 (4503599627370458)), .const (.int .u64 (4503599627370494)), .const (.int .u64 (4503599627370494)), .const (.int .u64 (4503599627370494)), .const (.int .u64 (4503599627370494))]) (vs := [_, _, _, _, _]) (css := [[.int .u64 4503599627370458], [.int .u64 4503599627370494], [.int .u64 4503599627370494], [.int .u64 4503599627370494], [.int .u64 4503599627370494]]) (out := [.int .u64 4503599627370458, .int .u64 4503599627370494, .int .u64 4503599627370494, .int .u64 4503599627370494, .int .u64 4503599627370494]) aA aY ah (cW 5 1) rfl rfl ⟨rfl, rfl, rfl, rfl, rfl, trivial⟩ rfl rfl) rfl (a9 (ab ah) rfl ?_))))
 rintro _ w4 ⟨b4, rfl, eb4, hb4, k4, z4⟩
 have ge_b4 : w.heap.size ≤ b4 := by have := hB.size; omega
 have ne_b1_b4 : b1 ≠ b4 := by have := hb1.lt; omega
 have ne_b2_b4 : b2 ≠ b4 := by have := hb2.lt; omega
 have ne_b3_b4 : b3 ≠ b4 := by have := hb3.lt; omega
 obtain ⟨hB, hb1, hb2, hb3⟩ := cy k4 hB hb1 hb2 hb3
 clear eb4 z4
 refine a6 (ak ah rfl rfl rfl (by simp only [List.forall_mem_cons]; refine ⟨rfl, rfl, rfl, rfl, rfl, fun v hv => by cases hv⟩) hb4 rfl) ?_
 rintro _ w5 ⟨hb5, k5, z5⟩
 replace hb1 := hb1.keep k5 (nm ne_b1_b4)
 replace hb2 := hb2.keep k5 (nm ne_b2_b4)
 replace hb3 := hb3.keep k5 (nm ne_b3_b4)
 replace hB := hB.new k5 (nw ge_b4)
 clear z5
 replace hb5 : Bk w5 b4 _ [.int .u64 4503599627370458, .int .u64 4503599627370494, .int .u64 4503599627370494, .int .u64 4503599627370494, .int .u64 4503599627370494] := hb5
 refine aT (aS (aR (aU (aX (cs' := [_, _, _, _, _]) ay ah rfl hb2 rfl rfl) rfl (a9 (aV (vs := [_]) rfl (d9 g (In.wk g0 rfl) (In.wk g1 rfl) (In.wk g2 rfl) (In.wk g3 rfl) (In.wk g4 rfl) _)) rfl ?_))))
 rintro _ w6 ⟨hh1, c01, c11, c21, c31, c41, rfl, e01, e11, e21, e31, e41, g01, g11, g21, g31, g41, gv1, k6⟩
 obtain ⟨hB, hb1, hb2, hb3, hb5⟩ := dg k6 hB hb1 hb2 hb3 hb5
 obtain ⟨r1, r2, r3, r4, r5⟩ := cf (t := 2251799813685285) e01 e11 e21 e31 e41 g01 g11 g21 g31 g41 (In.wk g0 rfl : In _ 0 4503599627370495) (In.wk g1 rfl : In _ 0 4503599627370495) (In.wk g2 rfl : In _ 0 4503599627370495) (In.wk g3 rfl : In _ 0 4503599627370495) (In.wk g4 rfl : In _ 0 4503599627370495) rfl
 refine a6 (ak ah rfl rfl rfl ad hb2 rfl) ?_
 rintro _ w7 ⟨hb6, k7, z6⟩
 replace hb1 := hb1.keep k7 (nm ne_b1_b2)
 replace hb3 := hb3.keep k7 (nm (Ne.symm ne_b2_b3))
 replace hb5 := hb5.keep k7 (nm (Ne.symm ne_b2_b4))
 replace hB := hB.new k7 (nw ge_b2)
 clear z6
 replace hb6 := cv (g := hh1) hb6
 refine aT (aS (aS (aR (ogm rfl rfl (aT (a5 (dQ 5 (aS (aR (aU (bW rfl rfl) rfl (aT (aS (bF rfl (by decide) (a8 (aS (a5 (aS (aR (ogm rfl rfl (oga rfl rfl (aT (bf 11 mixed (by decide +kernel) (fun w8 k8 => ?_)))))))))))))))))))))))
 obtain ⟨hB, hb1, hb3, hb5, hb6⟩ := dg k8 hB hb1 hb3 hb5 hb6
 refine ac (ax rfl) rfl (ac (aa aA aY rfl rfl (by decide)) rfl (ac (aZ ai rfl hb1 rfl) rfl (ac (ax rfl) rfl (ac (aa aA aY rfl rfl (by decide)) rfl (ac (aZ ai rfl hb5 rfl) rfl (ac (ax rfl) rfl (ac (aa aA aY rfl rfl (by decide)) rfl (ac (aZ ai rfl hb6 rfl) rfl (bk (e' := 4503599627370458 - (hh1 0)) (lo := 2251799813685173) (hi := 4503599627370458) (cw rfl rfl) (am (eI (dG 4503599627370458) r1) rfl) (In.wk (eI (dG 4503599627370458) r1) rfl) rfl (fun z7 h1 r6 => bk (e' := (f 0) + z7) (lo := 2251799813685173) (hi := 9007199254740953) (an rfl rfl) (am (al f0 r6) rfl) (In.wk (al f0 r6) rfl) rfl (fun z8 h2 r7 => cB ?_)))))))))))
 refine aU (aa aA aY rfl rfl (by decide)) rfl (a6 (cD aY rfl rfl rfl hb1 rfl) ?_)
 rintro _ w9 ⟨hb7, k9, z9⟩
 replace hb3 := hb3.keep k9 (nm (Ne.symm ne_b1_b3))
 replace hb5 := hb5.keep k9 (nm (Ne.symm ne_b1_b4))
 replace hb6 := hb6.keep k9 (nm (Ne.symm ne_b1_b2))
 replace hB := hB.new k9 (nw ge_b1)
 clear z9
 replace hb7 : Bk w9 b1 _ [.int .u64 z8, .int .u64 (f 1), .int .u64 (f 2), .int .u64 (f 3), .int .u64 (f 4)] := hb7
 refine aT (aW [(2, _), (3, _), (4, _), (5, _), (10, _)] ⟨rfl, rfl, rfl, rfl, rfl, trivial⟩ (bg (aR (aU (aq (j := 1) (an rfl rfl) (by decide)) rfl (ogm rfl rfl (aT (bn (aS (aR (aU (bW rfl rfl) rfl (aT (aS (bF rfl (by decide) (a8 (aS (a5 (aS (aR (ogm rfl rfl (oga rfl rfl (aT (bf 11 mixed (by decide +kernel) (fun w10 k10 => ?_)))))))))))))))))))))))
 obtain ⟨hB, hb3, hb5, hb6, hb7⟩ := dg k10 hB hb3 hb5 hb6 hb7
 refine ac (ax rfl) rfl (ac (aa aA aY rfl rfl (by decide)) rfl (ac (aZ ai rfl hb7 rfl) rfl (ac (ax rfl) rfl (ac (aa aA aY rfl rfl (by decide)) rfl (ac (aZ ai rfl hb5 rfl) rfl (ac (ax rfl) rfl (ac (aa aA aY rfl rfl (by decide)) rfl (ac (aZ ai rfl hb6 rfl) rfl (bk (e' := 4503599627370494 - (hh1 1)) (lo := 2251799813685247) (hi := 4503599627370494) (cw rfl rfl) (am (eI (dG 4503599627370494) r2) rfl) (In.wk (eI (dG 4503599627370494) r2) rfl) rfl (fun z10 h3 r8 => bk (e' := (f 1) + z10) (lo := 2251799813685247) (hi := 9007199254740989) (an rfl rfl) (am (al f1 r8) rfl) (In.wk (al f1 r8) rfl) rfl (fun z11 h4 r9 => cB ?_)))))))))))
 refine aU (aa aA aY rfl rfl (by decide)) rfl (a6 (cD aY rfl rfl rfl hb7 rfl) ?_)
 rintro _ w11 ⟨hb8, k11, z12⟩
 replace hb3 := hb3.keep k11 (nm (Ne.symm ne_b1_b3))
 replace hb5 := hb5.keep k11 (nm (Ne.symm ne_b1_b4))
 replace hb6 := hb6.keep k11 (nm (Ne.symm ne_b1_b2))
 replace hB := hB.new k11 (nw ge_b1)
 clear z12
 replace hb8 : Bk w11 b1 _ [.int .u64 z8, .int .u64 z11, .int .u64 (f 2), .int .u64 (f 3), .int .u64 (f 4)] := hb8
 refine aT (aW [(2, _), (3, _), (4, _), (5, _), (10, _)] ⟨rfl, rfl, rfl, rfl, rfl, trivial⟩ (bg (aR (aU (aq (j := 2) (an rfl rfl) (by decide)) rfl (ogm rfl rfl (aT (bn (aS (aR (aU (bW rfl rfl) rfl (aT (aS (bF rfl (by decide) (a8 (aS (a5 (aS (aR (ogm rfl rfl (oga rfl rfl (aT (bf 11 mixed (by decide +kernel) (fun w12 k12 => ?_)))))))))))))))))))))))
 obtain ⟨hB, hb3, hb5, hb6, hb8⟩ := dg k12 hB hb3 hb5 hb6 hb8
 refine ac (ax rfl) rfl (ac (aa aA aY rfl rfl (by decide)) rfl (ac (aZ ai rfl hb8 rfl) rfl (ac (ax rfl) rfl (ac (aa aA aY rfl rfl (by decide)) rfl (ac (aZ ai rfl hb5 rfl) rfl (ac (ax rfl) rfl (ac (aa aA aY rfl rfl (by decide)) rfl (ac (aZ ai rfl hb6 rfl) rfl (bk (e' := 4503599627370494 - (hh1 2)) (lo := 2251799813685247) (hi := 4503599627370494) (cw rfl rfl) (am (eI (dG 4503599627370494) r3) rfl) (In.wk (eI (dG 4503599627370494) r3) rfl) rfl (fun z13 h5 r10 => bk (e' := (f 2) + z13) (lo := 2251799813685247) (hi := 9007199254740989) (an rfl rfl) (am (al f2 r10) rfl) (In.wk (al f2 r10) rfl) rfl (fun z14 h6 r11 => cB ?_)))))))))))
 refine aU (aa aA aY rfl rfl (by decide)) rfl (a6 (cD aY rfl rfl rfl hb8 rfl) ?_)
 rintro _ w13 ⟨hb9, k13, z15⟩
 replace hb3 := hb3.keep k13 (nm (Ne.symm ne_b1_b3))
 replace hb5 := hb5.keep k13 (nm (Ne.symm ne_b1_b4))
 replace hb6 := hb6.keep k13 (nm (Ne.symm ne_b1_b2))
 replace hB := hB.new k13 (nw ge_b1)
 clear z15
 replace hb9 : Bk w13 b1 _ [.int .u64 z8, .int .u64 z11, .int .u64 z14, .int .u64 (f 3), .int .u64 (f 4)] := hb9
 refine aT (aW [(2, _), (3, _), (4, _), (5, _), (10, _)] ⟨rfl, rfl, rfl, rfl, rfl, trivial⟩ (bg (aR (aU (aq (j := 3) (an rfl rfl) (by decide)) rfl (ogm rfl rfl (aT (bn (aS (aR (aU (bW rfl rfl) rfl (aT (aS (bF rfl (by decide) (a8 (aS (a5 (aS (aR (ogm rfl rfl (oga rfl rfl (aT (bf 11 mixed (by decide +kernel) (fun w14 k14 => ?_)))))))))))))))))))))))
 obtain ⟨hB, hb3, hb5, hb6, hb9⟩ := dg k14 hB hb3 hb5 hb6 hb9
 refine ac (ax rfl) rfl (ac (aa aA aY rfl rfl (by decide)) rfl (ac (aZ ai rfl hb9 rfl) rfl (ac (ax rfl) rfl (ac (aa aA aY rfl rfl (by decide)) rfl (ac (aZ ai rfl hb5 rfl) rfl (ac (ax rfl) rfl (ac (aa aA aY rfl rfl (by decide)) rfl (ac (aZ ai rfl hb6 rfl) rfl (bk (e' := 4503599627370494 - (hh1 3)) (lo := 2251799813685247) (hi := 4503599627370494) (cw rfl rfl) (am (eI (dG 4503599627370494) r4) rfl) (In.wk (eI (dG 4503599627370494) r4) rfl) rfl (fun z16 h7 r12 => bk (e' := (f 3) + z16) (lo := 2251799813685247) (hi := 9007199254740989) (an rfl rfl) (am (al f3 r12) rfl) (In.wk (al f3 r12) rfl) rfl (fun z17 h8 r13 => cB ?_)))))))))))
 refine aU (aa aA aY rfl rfl (by decide)) rfl (a6 (cD aY rfl rfl rfl hb9 rfl) ?_)
 rintro _ w15 ⟨hb10, k15, z18⟩
 replace hb3 := hb3.keep k15 (nm (Ne.symm ne_b1_b3))
 replace hb5 := hb5.keep k15 (nm (Ne.symm ne_b1_b4))
 replace hb6 := hb6.keep k15 (nm (Ne.symm ne_b1_b2))
 replace hB := hB.new k15 (nw ge_b1)
 clear z18
 replace hb10 : Bk w15 b1 _ [.int .u64 z8, .int .u64 z11, .int .u64 z14, .int .u64 z17, .int .u64 (f 4)] := hb10
 refine aT (aW [(2, _), (3, _), (4, _), (5, _), (10, _)] ⟨rfl, rfl, rfl, rfl, rfl, trivial⟩ (bg (aR (aU (aq (j := 4) (an rfl rfl) (by decide)) rfl (ogm rfl rfl (aT (bn (aS (aR (aU (bW rfl rfl) rfl (aT (aS (bF rfl (by decide) (a8 (aS (a5 (aS (aR (ogm rfl rfl (oga rfl rfl (aT (bf 11 mixed (by decide +kernel) (fun w16 k16 => ?_)))))))))))))))))))))))
 obtain ⟨hB, hb3, hb5, hb6, hb10⟩ := dg k16 hB hb3 hb5 hb6 hb10
 refine ac (ax rfl) rfl (ac (aa aA aY rfl rfl (by decide)) rfl (ac (aZ ai rfl hb10 rfl) rfl (ac (ax rfl) rfl (ac (aa aA aY rfl rfl (by decide)) rfl (ac (aZ ai rfl hb5 rfl) rfl (ac (ax rfl) rfl (ac (aa aA aY rfl rfl (by decide)) rfl (ac (aZ ai rfl hb6 rfl) rfl (bk (e' := 4503599627370494 - (hh1 4)) (lo := 2251799813685247) (hi := 4503599627370494) (cw rfl rfl) (am (eI (dG 4503599627370494) r5) rfl) (In.wk (eI (dG 4503599627370494) r5) rfl) rfl (fun z19 h9 r14 => bk (e' := (f 4) + z19) (lo := 2251799813685247) (hi := 9007199254740989) (an rfl rfl) (am (al f4 r14) rfl) (In.wk (al f4 r14) rfl) rfl (fun z20 h10 r15 => cB ?_)))))))))))
 refine aU (aa aA aY rfl rfl (by decide)) rfl (a6 (cD aY rfl rfl rfl hb10 rfl) ?_)
 rintro _ w17 ⟨hb11, k17, z21⟩
 replace hb3 := hb3.keep k17 (nm (Ne.symm ne_b1_b3))
 replace hB := hB.new k17 (nw ge_b1)
 clear z21
 replace hb11 : Bk w17 b1 _ [.int .u64 z8, .int .u64 z11, .int .u64 z14, .int .u64 z17, .int .u64 z20] := hb11
 refine aT (aW [(2, _), (3, _), (4, _), (5, _), (10, _)] ⟨rfl, rfl, rfl, rfl, rfl, trivial⟩ (bg (aR (aU (aq (j := 5) (an rfl rfl) (by decide)) rfl (ogm rfl rfl (aT (bn (aS (aR (aU (bW rfl rfl) rfl (aT (aS (cU rfl (by decide) (bE rfl (aS (aR (aU (aX (cs' := [_, _, _, _, _]) ay ah rfl hb11 rfl rfl) rfl (a9 (aV (vs := [_]) rfl (d9 (vecN [z8, z11, z14, z17, z20]) (In.wk r7 rfl) (In.wk r9 rfl) (In.wk r11 rfl) (In.wk r13 rfl) (In.wk r15 rfl) _)) rfl ?_))))))))))))))))))
 rintro _ w18 ⟨hh2, c02, c12, c22, c32, c42, rfl, e02, e12, e22, e32, e42, g02, g12, g22, g32, g42, gv2, k18⟩
 obtain ⟨hB, hb3⟩ := bT k18 hB hb3
 replace e02 : c02 = z8 / 2251799813685248 := e02
 replace e12 : c12 = (z11 + c02) / 2251799813685248 := e12
 replace e22 : c22 = (z14 + c12) / 2251799813685248 := e22
 replace e32 : c32 = (z17 + c22) / 2251799813685248 := e32
 replace e42 : c42 = (z20 + c32) / 2251799813685248 := e42
 replace g02 : hh2 0 = z8 % 2251799813685248 + 19 * c42 := g02
 replace g12 : hh2 1 = (z11 + c02) % 2251799813685248 := g12
 replace g22 : hh2 2 = (z14 + c12) % 2251799813685248 := g22
 replace g32 : hh2 3 = (z17 + c22) % 2251799813685248 := g32
 replace g42 : hh2 4 = (z20 + c32) % 2251799813685248 := g42
 replace gv2 : dC hh2 + c42 * 57896044618658097711785492504343953926634992332820282019728792003956564819949 = z8 + z11 * 2251799813685248 + z14 * 5070602400912917605986812821504 + z17 * 11417981541647679048466287755595961091061972992 + z20 * 25711008708143844408671393477458601640355247900524685364822016 := gv2
 obtain ⟨r16, r17, r18, r19, r20⟩ := cf (t := 2251799813685323) e02 e12 e22 e32 e42 g02 g12 g22 g32 g42 (In.wk r7 rfl : In _ 0 9007199254740953) (In.wk r9 rfl : In _ 0 9007199254740989) (In.wk r11 rfl : In _ 0 9007199254740989) (In.wk r13 rfl : In _ 0 9007199254740989) (In.wk r15 rfl : In _ 0 9007199254740989) rfl
 refine a6 (ak ah rfl rfl rfl ad hb3 rfl) ?_
 rintro _ w19 ⟨hb12, k19, z22⟩
 replace hB := hB.new k19 (nw ge_b3)
 clear z22
 replace hb12 := cv (g := hh2) hb12
 refine aT (bP hfin Tryd.results59 rfl (ae ay ah hb12 rfl)  ?_)
 simp only [Eqn, In] at h1 r6 h2 r7 h3 r8 h4 r9 h5 r10 h6 r11 h7 r12 h8 r13 h9 r14 h10 r15 f0 f1 f2 f3 f4 g0 g1 g2 g3 g4
 exact ⟨hh2, rfl, ⟨(In.wk r16 rfl), (In.wk r17 rfl), (In.wk r18 rfl), (In.wk r19 rfl), (In.wk r20 rfl), by rw [show dC hh2 = dC f - dC g + (2 - c42 + c41) * 57896044618658097711785492504343953926634992332820282019728792003956564819949 from by unfold dC at *; omega, iH (b := dC f - dC g) (2 - c42 + c41) rfl, fp_sub, hfv, hgv]⟩, hB⟩
end Go.Proofs.YtllmbkmghmmhfaaDoor.W
namespace Go.Fld
open Go Go.Eng Go.Ed
theorem oV (x : Fp) (i : Nat) : fpow x (2 ^ i) * fpow x (2 ^ i) = fpow x (2 ^ (i + 1)) := by rw [← d6, Nat.pow_succ, Nat.mul_two]
theorem dO {f : Nat → Int} {x : Fp} {m n k : Nat} (h : El f (fpow x m * fpow x n)) (hk : Nat.beq (m + n) k = true) : El f (fpow x k) := by
 rw [← Nat.eq_of_beq_eq_true hk, d6]; exact h
theorem eH {f : Nat → Int} {x : Fp} {m n k : Nat} (h : El f (fpow (fpow x m) (2 ^ n))) (hk : Nat.beq (m * 2 ^ n) k = true) : El f (fpow x k) := by
 rw [← Nat.eq_of_beq_eq_true hk, fe]; exact h
theorem oi {f : Nat → Int} {x : Fp} (h : El f x) : El f (fpow x 1) := by rw [kB]; exact h
theorem el_two : El (vecN [2, 0, 0, 0, 0]) (fpow 2 1) := ⟨by decide, by decide, by decide, by decide, by decide, by decide⟩
theorem eU : El (fun _ => 0) 0 := ⟨by decide, by decide, by decide, by decide, by decide, by decide⟩
def byteN (n : Int) (j : Nat) : Int := n / 256 ^ j % 256
theorem lL : ∀ (k : Nat) (n : Int) (i : Nat), bv (leB (n / 256 ^ i) k) = ivF .u8 (byteN n) i k
 | 0, _, _ => rfl
 | k + 1, n, i => by
   have e : (n / 256 ^ i) / 256 = n / 256 ^ (i + 1) := by rw [Int.pow_succ, Int.ediv_ediv_of_nonneg (Int.pow_nonneg (by decide))]
   have h0 := Int.emod_nonneg (n / 256 ^ i) (show (256 : Int) ≠ 0 by decide)
   have h1 := Int.emod_lt_of_pos (n / 256 ^ i) (show (0 : Int) < 256 by decide)
   simp only [leB, ivF]
   rw [← lL k n (i + 1), ← e]
   have h2 : ((UInt8.ofNat (n / 256 ^ i % 256).toNat).toNat : Int) = byteN n i := by
     unfold byteN
     simp; omega
   show Value.int .u8 _ :: bv _ = _
   rw [h2]
theorem pD (a : Fp) : bv (fpB a) = iv .u8 32 (byteN a.val) := by
 have := lL 32 (a.val : Int) 0
 rw [Int.pow_zero, Int.ediv_one] at this
 exact this
theorem j5 {V w0 w1 w2 w3 : Int} (h0 : In w0 0 18446744073709551615) (h1 : In w1 0 18446744073709551615) (h2 : In w2 0 18446744073709551615) (h3 : In w3 0 18446744073709551615) (hV : V = w0 + w1 * 18446744073709551616 + w2 * 340282366920938463463374607431768211456 + w3 * 6277101735386680763835789423207666416102355444464034512896) :
   iv .u8 32 (byteN V) = [.int .u8 (w0 / 1 % 256), .int .u8 (w0 / 256 % 256), .int .u8 (w0 / 65536 % 256), .int .u8 (w0 / 16777216 % 256), .int .u8 (w0 / 4294967296 % 256), .int .u8 (w0 / 1099511627776 % 256), .int .u8 (w0 / 281474976710656 % 256), .int .u8 (w0 / 72057594037927936), .int .u8 (w1 / 1 % 256), .int .u8 (w1 / 256 % 256), .int .u8 (w1 / 65536 % 256), .int .u8 (w1 / 16777216 % 256), .int .u8 (w1 / 4294967296 % 256), .int .u8 (w1 / 1099511627776 % 256), .int .u8 (w1 / 281474976710656 % 256), .int .u8 (w1 / 72057594037927936), .int .u8 (w2 / 1 % 256), .int .u8 (w2 / 256 % 256), .int .u8 (w2 / 65536 % 256), .int .u8 (w2 / 16777216 % 256), .int .u8 (w2 / 4294967296 % 256), .int .u8 (w2 / 1099511627776 % 256), .int .u8 (w2 / 281474976710656 % 256), .int .u8 (w2 / 72057594037927936), .int .u8 (w3 / 1 % 256), .int .u8 (w3 / 256 % 256), .int .u8 (w3 / 65536 % 256), .int .u8 (w3 / 16777216 % 256), .int .u8 (w3 / 4294967296 % 256), .int .u8 (w3 / 1099511627776 % 256), .int .u8 (w3 / 281474976710656 % 256), .int .u8 (w3 / 72057594037927936)] := by
 unfold In at *
 show [Value.int .u8 (byteN V 0), Value.int .u8 (byteN V 1), Value.int .u8 (byteN V 2), Value.int .u8 (byteN V 3), Value.int .u8 (byteN V 4), Value.int .u8 (byteN V 5), Value.int .u8 (byteN V 6), Value.int .u8 (byteN V 7), Value.int .u8 (byteN V 8), Value.int .u8 (byteN V 9), Value.int .u8 (byteN V 10), Value.int .u8 (byteN V 11), Value.int .u8 (byteN V 12), Value.int .u8 (byteN V 13), Value.int .u8 (byteN V 14), Value.int .u8 (byteN V 15), Value.int .u8 (byteN V 16), Value.int .u8 (byteN V 17), Value.int .u8 (byteN V 18), Value.int .u8 (byteN V 19), Value.int .u8 (byteN V 20), Value.int .u8 (byteN V 21), Value.int .u8 (byteN V 22), Value.int .u8 (byteN V 23), Value.int .u8 (byteN V 24), Value.int .u8 (byteN V 25), Value.int .u8 (byteN V 26), Value.int .u8 (byteN V 27), Value.int .u8 (byteN V 28), Value.int .u8 (byteN V 29), Value.int .u8 (byteN V 30), Value.int .u8 (byteN V 31)] = _
 unfold byteN
 rw [show V / 256 ^ 0 % 256 = w0 / 1 % 256 from by (have e : (256 : Int) ^ 0 = 1 := rfl); rw [e]; omega]
 rw [show V / 256 ^ 1 % 256 = w0 / 256 % 256 from by (have e : (256 : Int) ^ 1 = 256 := rfl); rw [e]; omega]
 rw [show V / 256 ^ 2 % 256 = w0 / 65536 % 256 from by (have e : (256 : Int) ^ 2 = 65536 := rfl); rw [e]; omega]
 rw [show V / 256 ^ 3 % 256 = w0 / 16777216 % 256 from by (have e : (256 : Int) ^ 3 = 16777216 := rfl); rw [e]; omega]
 rw [show V / 256 ^ 4 % 256 = w0 / 4294967296 % 256 from by (have e : (256 : Int) ^ 4 = 4294967296 := rfl); rw [e]; omega]
 rw [show V / 256 ^ 5 % 256 = w0 / 1099511627776 % 256 from by (have e : (256 : Int) ^ 5 = 1099511627776 := rfl); rw [e]; omega]
 rw [show V / 256 ^ 6 % 256 = w0 / 281474976710656 % 256 from by (have e : (256 : Int) ^ 6 = 281474976710656 := rfl); rw [e]; omega]
 rw [show V / 256 ^ 7 % 256 = w0 / 72057594037927936 from by (have e : (256 : Int) ^ 7 = 72057594037927936 := rfl); rw [e]; omega]
 rw [show V / 256 ^ 8 % 256 = w1 / 1 % 256 from by (have e : (256 : Int) ^ 8 = 18446744073709551616 := rfl); rw [e]; omega]
 rw [show V / 256 ^ 9 % 256 = w1 / 256 % 256 from by (have e : (256 : Int) ^ 9 = 4722366482869645213696 := rfl); rw [e]; omega]
 rw [show V / 256 ^ 10 % 256 = w1 / 65536 % 256 from by (have e : (256 : Int) ^ 10 = 1208925819614629174706176 := rfl); rw [e]; omega]
 rw [show V / 256 ^ 11 % 256 = w1 / 16777216 % 256 from by (have e : (256 : Int) ^ 11 = 309485009821345068724781056 := rfl); rw [e]; omega]
 rw [show V / 256 ^ 12 % 256 = w1 / 4294967296 % 256 from by (have e : (256 : Int) ^ 12 = 79228162514264337593543950336 := rfl); rw [e]; omega]
 rw [show V / 256 ^ 13 % 256 = w1 / 1099511627776 % 256 from by (have e : (256 : Int) ^ 13 = 20282409603651670423947251286016 := rfl); rw [e]; omega]
 rw [show V / 256 ^ 14 % 256 = w1 / 281474976710656 % 256 from by (have e : (256 : Int) ^ 14 = 5192296858534827628530496329220096 := rfl); rw [e]; omega]
 rw [show V / 256 ^ 15 % 256 = w1 / 72057594037927936 from by (have e : (256 : Int) ^ 15 = 1329227995784915872903807060280344576 := rfl); rw [e]; omega]
 rw [show V / 256 ^ 16 % 256 = w2 / 1 % 256 from by (have e : (256 : Int) ^ 16 = 340282366920938463463374607431768211456 := rfl); rw [e]; omega]
 rw [show V / 256 ^ 17 % 256 = w2 / 256 % 256 from by (have e : (256 : Int) ^ 17 = 87112285931760246646623899502532662132736 := rfl); rw [e]; omega]
 rw [show V / 256 ^ 18 % 256 = w2 / 65536 % 256 from by (have e : (256 : Int) ^ 18 = 22300745198530623141535718272648361505980416 := rfl); rw [e]; omega]
 rw [show V / 256 ^ 19 % 256 = w2 / 16777216 % 256 from by (have e : (256 : Int) ^ 19 = 5708990770823839524233143877797980545530986496 := rfl); rw [e]; omega]
 rw [show V / 256 ^ 20 % 256 = w2 / 4294967296 % 256 from by (have e : (256 : Int) ^ 20 = 1461501637330902918203684832716283019655932542976 := rfl); rw [e]; omega]
 rw [show V / 256 ^ 21 % 256 = w2 / 1099511627776 % 256 from by (have e : (256 : Int) ^ 21 = 374144419156711147060143317175368453031918731001856 := rfl); rw [e]; omega]
 rw [show V / 256 ^ 22 % 256 = w2 / 281474976710656 % 256 from by (have e : (256 : Int) ^ 22 = 95780971304118053647396689196894323976171195136475136 := rfl); rw [e]; omega]
 rw [show V / 256 ^ 23 % 256 = w2 / 72057594037927936 from by (have e : (256 : Int) ^ 23 = 24519928653854221733733552434404946937899825954937634816 := rfl); rw [e]; omega]
 rw [show V / 256 ^ 24 % 256 = w3 / 1 % 256 from by (have e : (256 : Int) ^ 24 = 6277101735386680763835789423207666416102355444464034512896 := rfl); rw [e]; omega]
 rw [show V / 256 ^ 25 % 256 = w3 / 256 % 256 from by (have e : (256 : Int) ^ 25 = 1606938044258990275541962092341162602522202993782792835301376 := rfl); rw [e]; omega]
 rw [show V / 256 ^ 26 % 256 = w3 / 65536 % 256 from by (have e : (256 : Int) ^ 26 = 411376139330301510538742295639337626245683966408394965837152256 := rfl); rw [e]; omega]
 rw [show V / 256 ^ 27 % 256 = w3 / 16777216 % 256 from by (have e : (256 : Int) ^ 27 = 105312291668557186697918027683670432318895095400549111254310977536 := rfl); rw [e]; omega]
 rw [show V / 256 ^ 28 % 256 = w3 / 4294967296 % 256 from by (have e : (256 : Int) ^ 28 = 26959946667150639794667015087019630673637144422540572481103610249216 := rfl); rw [e]; omega]
 rw [show V / 256 ^ 29 % 256 = w3 / 1099511627776 % 256 from by (have e : (256 : Int) ^ 29 = 6901746346790563787434755862277025452451108972170386555162524223799296 := rfl); rw [e]; omega]
 rw [show V / 256 ^ 30 % 256 = w3 / 281474976710656 % 256 from by (have e : (256 : Int) ^ 30 = 1766847064778384329583297500742918515827483896875618958121606201292619776 := rfl); rw [e]; omega]
 rw [show V / 256 ^ 31 % 256 = w3 / 72057594037927936 from by (have e : (256 : Int) ^ 31 = 452312848583266388373324160190187140051835877600158453279131187530910662656 := rfl); rw [e]; omega]
theorem kV {f0 f1 f2 f3 f4 c0 c1 c2 c3 c4 g0 g1 g2 g3 g4 d0 d1 d2 d3 d4 h0 : Int} (e0 : c0 = f0 / 2251799813685248) (e1 : c1 = (f1 + c0) / 2251799813685248) (e2 : c2 = (f2 + c1) / 2251799813685248) (e3 : c3 = (f3 + c2) / 2251799813685248) (e4 : c4 = (f4 + c3) / 2251799813685248)
   (k0 : g0 = f0 % 2251799813685248 + 19 * c4) (k1 : g1 = (f1 + c0) % 2251799813685248) (k2 : g2 = (f2 + c1) % 2251799813685248) (k3 : g3 = (f3 + c2) % 2251799813685248) (k4 : g4 = (f4 + c3) % 2251799813685248)
   (r0 : In f0 0 4503599627370495) (r1 : In f1 0 4503599627370495) (r2 : In f2 0 4503599627370495) (r3 : In f3 0 4503599627370495) (r4 : In f4 0 4503599627370495)
   (e0' : d0 = g0 / 2251799813685248) (e1' : d1 = (g1 + d0) / 2251799813685248) (e2' : d2 = (g2 + d1) / 2251799813685248) (e3' : d3 = (g3 + d2) / 2251799813685248) (e4' : d4 = (g4 + d3) / 2251799813685248) (k0' : h0 = g0 % 2251799813685248 + 19 * d4) : In h0 0 2251799813685247 := by
 unfold In at *
 omega
theorem limb1 {a b : Int} (ha : In a 0 18446744073709551615) (hb : In b 0 18446744073709551615) : (a / 2251799813685248 + b * 8192 % 18446744073709551616) % 2251799813685248 = a / 2251799813685248 + 8192 * (b % 274877906944) := by
 unfold In at *
 have e : b * 8192 % 18446744073709551616 = 8192 * (b % 2251799813685248) := by omega
 rw [e]; omega
theorem limb2 {a b : Int} (ha : In a 0 18446744073709551615) (hb : In b 0 18446744073709551615) : (a / 274877906944 + b * 67108864 % 18446744073709551616) % 2251799813685248 = a / 274877906944 + 67108864 * (b % 33554432) := by
 unfold In at *
 have e : b * 67108864 % 18446744073709551616 = 67108864 * (b % 274877906944) := by omega
 rw [e]; omega
theorem limb3 {a b : Int} (ha : In a 0 18446744073709551615) (hb : In b 0 18446744073709551615) : (a / 33554432 + b * 549755813888 % 18446744073709551616) % 2251799813685248 = a / 33554432 + 549755813888 * (b % 4096) := by
 unfold In at *
 have e : b * 549755813888 % 18446744073709551616 = 549755813888 * (b % 33554432) := by omega
 rw [e]; omega
theorem get_val {w0 w1 w2 w3 : Int} (h0 : In w0 0 18446744073709551615) (h1 : In w1 0 18446744073709551615) (h2 : In w2 0 18446744073709551615) (h3 : In w3 0 18446744073709551615) :
   w0 % 2251799813685248 + 19 * (w3 / 9223372036854775808) + (w0 / 2251799813685248 + w1 * 8192 % 18446744073709551616) % 2251799813685248 * 2251799813685248 + (w1 / 274877906944 + w2 * 67108864 % 18446744073709551616) % 2251799813685248 * 5070602400912917605986812821504 + (w2 / 33554432 + w3 * 549755813888 % 18446744073709551616) % 2251799813685248 * 11417981541647679048466287755595961091061972992 + w3 / 4096 % 2251799813685248 * 25711008708143844408671393477458601640355247900524685364822016 =
   w0 + w1 * 18446744073709551616 + w2 * 340282366920938463463374607431768211456 + w3 * 6277101735386680763835789423207666416102355444464034512896 - w3 / 9223372036854775808 * 57896044618658097711785492504343953926634992332820282019728792003956564819949 := by
 rw [limb1 h0 h1, limb2 h1 h2, limb3 h2 h3]
 unfold In at *
 omega
theorem ia {x0 x1 x2 x3 x4 : Int} (h0 : In x0 0 2251799813685247) (h1 : In x1 0 2251799813685247) (h2 : In x2 0 2251799813685247) (h3 : In x3 0 2251799813685247) (h4 : In x4 0 2251799813685247) :
   x0 + x1 * 2251799813685248 + x2 * 5070602400912917605986812821504 + x3 * 11417981541647679048466287755595961091061972992 + x4 * 25711008708143844408671393477458601640355247900524685364822016 = x0 + x1 * 2251799813685248 % 18446744073709551616 + (x1 / 8192 + x2 * 274877906944 % 18446744073709551616) * 18446744073709551616 + (x2 / 67108864 + x3 * 33554432 % 18446744073709551616) * 340282366920938463463374607431768211456 + (x3 / 549755813888 + x4 * 4096) * 6277101735386680763835789423207666416102355444464034512896 := by
 unfold In at *
 have e1 : x1 * 2251799813685248 % 18446744073709551616 = 2251799813685248 * (x1 % 8192) := by omega
 have e2 : x2 * 274877906944 % 18446744073709551616 = 274877906944 * (x2 % 67108864) := by omega
 have e3 : x3 * 33554432 % 18446744073709551616 = 33554432 * (x3 % 549755813888) := by omega
 rw [e1, e2, e3]; omega
theorem fpB_dec (a b : Fp) : decide (fpB a = fpB b) = decide (a = b) := by
 by_cases h : a = b
 · subst h; simp
 · rw [decide_eq_false h, decide_eq_false (fun e => h (lr e))]
end Go.Fld
namespace Go.Fld
open Go Go.Eng Go.Ed Go.Byt
def Part (q : Nat → Int) (f g : Nat → Int) (i : Nat) : Prop := (∀ j, j < i → g j = q j) ∧ ∀ j, i ≤ j → g j = f j
theorem kq (q f : Nat → Int) : Part q f f 0 := ⟨fun j hj => by omega, fun j _ => rfl⟩
theorem md {q f g : Nat → Int} {i : Nat} {v : Int} (h : Part q f g i) (hv : v = q i) : Part q f (upd g i v) (i + 1) := by
 refine ⟨fun j hj => ?_, fun j hj => ?_⟩
 · by_cases hji : j = i
   · subst hji; rw [cO, hv]
   · rw [bH _ _ hji]; exact h.1 j (by omega)
 · rw [bH _ _ (by omega)]; exact h.2 j (by omega)
def vW (f : Nat → Int) : Nat → Int
 | 0 => 0
 | n + 1 => vW f n + f n * 18446744073709551616 ^ n
theorem ft (f : Nat → Int) {i : Nat} (v : Int) : ∀ {n : Nat}, n ≤ i → vW (upd f i v) n = vW f n
 | 0, _ => rfl
 | n + 1, h => by rw [vW, vW, ft f v (n := n) (by omega), bH f v (by omega)]
theorem fC (f : Nat → Int) {i : Nat} (v : Int) : ∀ {n : Nat}, i < n → vW (upd f i v) n = vW f n + (v - f i) * 18446744073709551616 ^ i
 | 0, h => by omega
 | n + 1, h => by
   rw [vW, vW]
   by_cases hi : i = n
   · subst hi
     rw [ft f v (Nat.le_refl _), cO, Int.sub_mul]; omega
   · rw [fC f v (n := n) (by omega), bH f v (by omega)]; omega
theorem lT (n : Nat) : vW (fun _ => 0) n = 0 := by
  induction n with
  | zero => rfl
  | succ n ih => rw [vW, ih]; simp
theorem powW (n : Nat) : (0 : Int) < 18446744073709551616 ^ n := Int.pow_pos (by decide)
def Wd (f : Nat → Int) : Prop := ∀ j, j < 9 → In (f j) 0 18446744073709551615
theorem gI {f : Nat → Int} : ∀ {n : Nat}, (∀ j, j < n → In (f j) 0 18446744073709551615) → 0 ≤ vW f n ∧ vW f n < 18446744073709551616 ^ n
 | 0, _ => by simp [vW]
 | n + 1, h => by
   have ih := gI (n := n) (fun j hj => h j (by omega))
   have hn := h n (by omega)
   have hp := powW n
   rw [vW, Int.pow_succ]
   have h1 : 0 ≤ f n * 18446744073709551616 ^ n := Int.mul_nonneg hn.1 (by omega)
   have h2 : f n * 18446744073709551616 ^ n ≤ 18446744073709551615 * 18446744073709551616 ^ n := Int.mul_le_mul_of_nonneg_right hn.2 (by omega)
   generalize f n * 18446744073709551616 ^ n = q at *
   generalize (18446744073709551616 : Int) ^ n = p at *
   omega
theorem gc (f : Nat → Int) (n : Nat) : ∀ m, vW f (n + m) = vW f n + 18446744073709551616 ^ n * vW (fun j => f (n + j)) m
  | 0 => by simp [vW]
  | m + 1 => by
    rw [← Nat.add_assoc, vW, gc f n m, vW, Int.pow_add, Int.mul_add]
    generalize (18446744073709551616 : Int) ^ n = P
    generalize (18446744073709551616 : Int) ^ m = Q
    grind -lia -linarith
theorem ks {x y : Int} (s : Nat) (h0 : 0 ≤ x) (hx : x % 2 ^ s = 0) (h1 : x < 18446744073709551616) (h2 : 0 ≤ y) (h3 : y < 2 ^ s) (h4 : y < 18446744073709551616) : bits .or .u64 x y = x + y := by
 by_cases hs : s ≤ 64
 · have hle : (2 : Int) ^ s ≤ 2 ^ 64 := by
     have := Nat.pow_le_pow_right (show 0 < 2 by decide) hs
     exact_mod_cast this
   exact bits_join .u64 64 (Nat.le_refl _) (fP (k := .u64) rfl) s x y h0 hx (by omega) h2 h3 (by omega)
 · have hle : (2 : Int) ^ 64 ≤ 2 ^ s := by
     have := Nat.pow_le_pow_right (show 0 < 2 by decide) (show 64 ≤ s by omega)
     exact_mod_cast this
   have hx0 : x = 0 := by
     have := Int.emod_eq_of_lt h0 (show x < 2 ^ s by omega)
     omega
   subst hx0
   rw [lO (k := .u64) (a := 0) (b := 18446744073709551615) rfl (by unfold In; omega) rfl rfl]; omega
theorem gw {x y : Int} (s : Nat) (h0 : 0 ≤ x) (h1 : x < 2 ^ s) (h4 : x < 18446744073709551616) (hy0 : 0 ≤ y) (hy : y % 2 ^ s = 0) (hy1 : y < 18446744073709551616) : bits .or .u64 x y = x + y := by
 rw [fA, ks s hy0 hy hy1 h0 h1 h4, Int.add_comm]
def GetI (xs : List UInt8) (g : Nat → Int) (i : Nat) : Prop := vW g 9 = leI (xs.take i) ∧ Wd g ∧ (∀ j, i ≤ 8 * j → g j = 0) ∧ In (g (i / 8)) 0 (256 ^ (i % 8) - 1)
theorem oI (xs : List UInt8) (i : Nat) (h : i < xs.length) : leI (xs.take (i + 1)) = leI (xs.take i) + gb xs (i : Int) * 256 ^ i := by
 have key : ∀ (ys : List UInt8) (b : UInt8), leI (ys ++ [b]) = leI ys + (b.toNat : Int) * 256 ^ ys.length := by
   intro ys b
   induction ys with
   | nil => simp [leI]
   | cons a r ih => simp only [List.cons_append, leI, ih, List.length_cons, Int.pow_succ]; generalize (256 : Int) ^ r.length = q; generalize (b.toNat : Int) = c; grind -lia -linarith
 rw [List.take_add_one, List.getElem?_eq_getElem h]
 simp only [Option.toList]
 rw [key, List.length_take, Nat.min_eq_left (by omega)]
 congr 2
 unfold gb; rw [Int.toNat_natCast, List.getD_eq_getElem?_getD, List.getElem?_eq_getElem h]; rfl
theorem hQ (xs : List UInt8) : GetI xs (fun _ => 0) 0 := ⟨by rw [lT]; simp [leI], fun _ _ => (show In 0 0 18446744073709551615 by decide), fun _ _ => rfl, (show In 0 0 (256 ^ 0 - 1) by decide)⟩
theorem fW (m : Nat) : (256 : Int) ^ m = 2 ^ (8 * m) := by rw [Int.pow_mul]; rfl
theorem kL {xs : List UInt8} {g : Nat → Int} {i : Nat} {x c t v : Int} (h : GetI xs g i) (hi : i < xs.length) (h72 : i < 72) (hx : Eqn x (g (i / 8))) (hc : Eqn c (gb xs (i : Int))) (ht : t = IntKind.u64.wrap (c * 2 ^ (8 * ((i : Int) % 8)).toNat)) (hv : v = bits .or .u64 x t) : GetI xs (upd g (i / 8) v) (i + 1) := by
 unfold Eqn at *
 obtain ⟨h1, h2, h3, h4⟩ := h
 have gr := cc xs (i : Int)
 have e8 : (8 * ((i : Int) % 8)).toNat = 8 * (i % 8) := by omega
 rw [e8, ← fW] at ht
 have hm : i % 8 < 8 := Nat.mod_lt _ (by decide)
 have hq : 0 < (256 : Int) ^ (i % 8) := Int.pow_pos (by decide)
 have hq2 : (256 : Int) ^ (i % 8) * 256 ≤ 18446744073709551616 := by
   have : ∀ m : Fin 8, (256 : Int) ^ m.val * 256 ≤ 18446744073709551616 := by decide +kernel
   exact this ⟨i % 8, hm⟩
 have hg := h2 (i / 8) (by omega)
 subst hx hc
 have hcq : gb xs (i : Int) * 256 ^ (i % 8) ≤ 255 * 256 ^ (i % 8) := Int.mul_le_mul_of_nonneg_right gr.2 (by omega)
 have hcq0 : 0 ≤ gb xs (i : Int) * 256 ^ (i % 8) := Int.mul_nonneg gr.1 (by omega)
 have hmod : gb xs (i : Int) * 256 ^ (i % 8) % 2 ^ (8 * (i % 8)) = 0 := by rw [← fW]; exact Int.mul_emod_left _ _
 unfold In at h4 hg
 have ht2 : t = gb xs (i : Int) * 256 ^ (i % 8) := by
   rw [ht]; exact am (k := .u64) (a := 0) (b := 18446744073709551615) (by unfold In; generalize gb xs (i : Int) * 256 ^ (i % 8) = u at *; generalize (256 : Int) ^ (i % 8) = p at *; omega) rfl
 have hv2 : v = g (i / 8) + gb xs (i : Int) * 256 ^ (i % 8) := by
   rw [hv, ht2]
   refine gw (8 * (i % 8)) h4.1 ?_ (by omega) hcq0 hmod ?_
   · rw [← fW]; omega
   · generalize gb xs (i : Int) * 256 ^ (i % 8) = u at *; generalize (256 : Int) ^ (i % 8) = p at *; omega
 have hvb : 0 ≤ v ∧ v ≤ 256 ^ (i % 8) * 256 - 1 := by
   rw [hv2]; generalize gb xs (i : Int) * 256 ^ (i % 8) = u at *; generalize (256 : Int) ^ (i % 8) = p at *; omega
 refine ⟨?_, fun j hj => ?_, fun j hj => ?_, ?_⟩
 · rw [fC _ _ (by omega), h1, oI xs i hi, hv2]
   have e : (256 : Int) ^ i = 256 ^ (i % 8) * 18446744073709551616 ^ (i / 8) := by
     rw [show (18446744073709551616 : Int) = 256 ^ 8 by decide, ← Int.pow_mul, ← Int.pow_add]; congr 1; omega
   rw [e]
   generalize (18446744073709551616 : Int) ^ (i / 8) = q
   generalize (256 : Int) ^ (i % 8) = p
   generalize gb xs (i : Int) = c
   generalize g (i / 8) = w
   grind -lia -linarith
 · by_cases e : j = i / 8
   · subst e; rw [cO]; unfold In; omega
   · rw [bH _ _ e]; exact h2 j hj
 · by_cases e : j = i / 8
   · omega
   · rw [bH _ _ e]; exact h3 j (by omega)
 · by_cases e : i % 8 = 7
   · rw [bH _ _ (by omega), h3 ((i + 1) / 8) (by omega), show (i + 1) % 8 = 0 by omega]; decide
   · rw [show (i + 1) / 8 = i / 8 by omega, cO, show (i + 1) % 8 = i % 8 + 1 by omega, Int.pow_succ]
     unfold In; omega
theorem kM {xs : List UInt8} {g : Nat → Int} {i : Nat} (h : GetI xs g i) (hi : i = xs.length) : vW g 9 = leI xs ∧ Wd g ∧ ∀ j, xs.length ≤ 8 * j → g j = 0 := by
 subst hi
 exact ⟨by rw [h.1, List.take_length], h.2.1, h.2.2.1⟩
theorem get4 {xs : List UInt8} {g : Nat → Int} {i : Nat} (h : GetI xs g i) (hi : i = xs.length) (hx : xs.length = 32) : leI xs = g 0 + g 1 * 18446744073709551616 + g 2 * 340282366920938463463374607431768211456 + g 3 * 6277101735386680763835789423207666416102355444464034512896 ∧ In (g 0) 0 18446744073709551615 ∧ In (g 1) 0 18446744073709551615 ∧ In (g 2) 0 18446744073709551615 ∧ In (g 3) 0 18446744073709551615 := by
 obtain ⟨h1, h2, h3⟩ := kM h hi
 refine ⟨?_, h2 0 (by decide), h2 1 (by decide), h2 2 (by decide), h2 3 (by decide)⟩
 rw [← h1]
 simp only [vW, h3 4 (by omega), h3 5 (by omega), h3 6 (by omega), h3 7 (by omega), h3 8 (by omega), Int.zero_mul, Int.add_zero, Int.zero_add, Int.pow_zero, Int.mul_one]
 rfl
end Go.Fld
